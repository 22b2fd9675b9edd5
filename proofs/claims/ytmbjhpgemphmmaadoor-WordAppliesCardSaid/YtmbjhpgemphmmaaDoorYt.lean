/-
  WALKS of package word: Of, where the operator is one of two ints.
-/
import Derived.Test.YtmbjhpgemphmmaaDoorYr
import Derived.Test.YtmbjhpgemphmmaaDoorYl
namespace Go.Proofs.YtmbjhpgemphmmaaDoor
open Go.RowKit
/-- a slice of words lies there -/
def PartsAt (w : World) (B : Nat) (A : Option Addr) (ps : List (List Nat)) : Prop :=
  ∃ ad o, A = some ad ∧ w.heap[ad.block]? = some o ∧ (ad.block < B ∨ elemOf o = some 28) ∧ ∀ i xs, ps[i]? = some xs → ∃ Ai ci, w.cell? (ad.add i) = some (.slice Ai xs.length ci) ∧ Held w B Ai xs.length xs
theorem PartsAt.chg {w w' : World} {B : Nat} {A : Option Addr} {ps : List (List Nat)} {S : Nat → Obj → Prop} (h : PartsAt w B A ps) (hc : Chg S w w') (hS : ∀ k o, S k o → B ≤ k ∧ elemOf o ≠ some 28 ∧ elemOf o ≠ some 29) : PartsAt w' B A ps := by
  obtain ⟨ad, o, rfl, ho, hb, hcell⟩ := h
  have hk := hc.keep _ _ ho fun hs => by
    obtain ⟨h1, h2, _⟩ := hS _ _ hs
    rcases hb with hb | hb
    · omega
    · exact h2 hb
  refine ⟨ad, o, rfl, hk, hb, fun i xs hx => ?_⟩
  obtain ⟨Ai, ci, h1, h2⟩ := hcell i xs hx
  exact ⟨Ai, ci, (World.cell?_of_block (a := ad.add i) (by rw [block_of_add]; exact hk.trans ho.symm)).trans h1, h2.chg hc fun k o hs => ⟨(hS k o hs).1, (hS k o hs).2.2⟩⟩
theorem PartsAt.gt {w w' : World} {B : Nat} {A : Option Addr} {ps : List (List Nat)} (h : PartsAt w B A ps) (hc : Chg (GT B) w w') : PartsAt w' B A ps :=
  h.chg hc fun k o hs => ⟨hs.1, by rcases hs.2 with e | e | e <;> rw [e] <;> exact ⟨by simp, by simp⟩⟩
theorem PartsAt.same {w w' : World} {B : Nat} {ad : Addr} {ps : List (List Nat)} (h : PartsAt w B (some ad) ps) (hc : Chg (GT B) w w') (i : Nat) : w'.cell? (ad.add i) = w.cell? (ad.add i) := by
  obtain ⟨ad', o, hA, ho, hb, _⟩ := h
  obtain rfl : ad = ad' := by injection hA
  have hk := hc.keep _ _ ho fun hs => by
    rcases hb with hb | hb
    · have := hs.1; omega
    · rcases hs.2 with e | e | e <;> rw [hb] at e <;> simp at e
  exact World.cell?_of_block (a := ad.add i) (by rw [block_of_add]; exact hk.trans ho.symm)
theorem PartsAt.new {w w' : World} {B : Nat} {A : Option Addr} {ps : List (List Nat)} (h : PartsAt w B A ps) (hb : Below w.heap.size w w') : PartsAt w' B A ps := h.chg (S := fun _ _ => False) (.of_new hb) (by simp)
theorem PartsAt.lens {w : World} {B : Nat} {A : Option Addr} {ps : List (List Nat)} (h : PartsAt w B A ps) : Lens w A (ps.map List.length) := by
  obtain ⟨ad, o, hA, _, _, hc⟩ := h
  refine ⟨ad, hA, fun i n hn => ?_⟩
  rw [List.getElem?_map] at hn
  cases hp : ps[i]? with
  | none => rw [hp] at hn; cases hn
  | some xs =>
    rw [hp] at hn
    obtain rfl : xs.length = n := by simpa using hn
    obtain ⟨Ai, ci, h1, _⟩ := hc i xs hp
    exact ⟨Ai, ci, h1⟩
def LcR (n : Nat) (iv : Value) : Prop := ∃ k : Nat, k ≤ n ∧ iv = .int .i64 k
/-- what Of answers -/
def OfP (w : World) (B b : Nat) (gs : List Gm.Gate) (k n : Nat) (f : List Bool → List Bool) (g : List Bool → Bool) (e : Ending) (w' : World) : Prop :=
  ∃ A c gs' outs last, e = .returned (.tuple #[.slice A n c, .int .i64 (last : Nat), .nilIface]) ∧ GA w' B b gs' ∧ Chg (GT B) w w' ∧ w'.ownsRow w.heap.size 29 1 (.slice A n c) n (natVals outs) ∧ MadeW gs gs' k outs f ∧ MadeL gs gs' k last g
theorem GA.setBlk {w : World} {B b g k : Nat} {t : TypeId} {cs : Array Value} {gs : List Gm.Gate} (h : GA w B b gs) (ho : Blk w g t cs) (ht : t ≠ 27 ∧ t ≠ 89) (u : Value) : GA (w.setCell ⟨g, k, none⟩ u) B b gs := by
  refine h.chg (S := fun _ o => elemOf o = some t) ⟨rfl, rfl, rfl, by simp [World.setCell], fun j o hj hn => ?_⟩ fun k o _ hs => by rw [hs]; exact ⟨by simpa using ht.1, by simpa using ht.2, by simp⟩
  refine (Below.heap_setCell _ _ _ _ (fun e => ?_)).trans hj
  subst e
  unfold Blk at ho
  rw [ho] at hj
  injection hj with hj
  subst hj
  exact hn rfl
theorem cell_far {w : World} {p q : Addr} (u : Value) (h : p.block ≠ q.block) : (w.setCell p u).cell? q = w.cell? q := World.cell?_setCell_other w p q u (fun e => h (by rw [e]))
/-- the facts on an operator's text that the walk asks for -/
structure TwoOp (s : ByteArray) : Prop where
  n : arN s = 2
  ok : arB s = true
  e1 : (s.toList == [112, 114, 101]) = false
  e2 : (s.toList == [45, 62]) = false
  e3 : (s.toList == [102, 98, 121]) = false
  e4 : (s.toList == [110, 111, 116]) = false
  e5 : (s.toList == [110, 101, 103]) = false
  e6 : (s.toList == [105, 102]) = false
  e7 : (s.toList == [61]) = false
  e8 : (s.toList == [60, 62]) = false
  e9 : (s.toList == [97, 110, 100]) = false
  e10 : (s.toList == [111, 114]) = false
  e11 : (s.toList == [120, 111, 114]) = false
  e12 : (s.toList == [61, 62]) = false
attribute [local irreducible] wpSeq wpStill
set_option maxRecDepth 100000 in
set_option maxHeartbeats 4000000 in
theorem of_two {w : World} {B b LB : Nat} {gs : List Gm.Gate} (h : GA w B b gs) (hL : Lvls w LB) (hLB : LB ≤ w.heap.size) {A : Option Addr} {c k n : Nat} {xs ys : List Nat} (hp : PartsAt w B A [xs, ys]) (hx8 : xs.length = 8) (hy8 : ys.length = 8) (gx : AllHas gs xs) (gy : AllHas gs ys)
    (hn : gs.length ≤ 99000) {s : ByteArray} (hs : TwoOp s) {f : List Bool → List Bool} {g : List Bool → Bool}
    (HI : ∀ (W : World) (A0 A1 : Option Addr) (c0 c1 : Nat), GA W B b gs → Held W B A0 8 xs → Held W B A1 8 ys → Calls Tryd.prog 48 #[.agg #[.pointer (some ⟨b, 0, none⟩)], .string s, .slice A0 8 c0, .slice A1 8 c1] W (WL W B b gs k n f g)) :
    Calls Tryd.prog 17 #[.pointer (some ⟨b, 0, none⟩), .string s, .slice A 2 c] w (OfP w B b gs k n f g) := by
  obtain ⟨ad, hA, hadlt⟩ : ∃ ad, A = some ad ∧ ad.block < w.heap.size := by
    obtain ⟨ad, o, hA, ho, _, _⟩ := hp; exact ⟨ad, hA, lt_of_heap ho⟩
  subst hA
  have HAD := Lib.hid hadlt
  clear hadlt
  obtain ⟨WA, hWA⟩ : ∃ WA, WA = ((w.alloc (.cells #[.slice none 0 0] 28)).alloc (.cells #[.int .i64 0] 29)).alloc (.cells #[.nilIface] 31) := ⟨_, rfl⟩
  have hba : Below w.heap.size w WA := by rw [hWA]; exact (((Below.refl _ _).alloc (Nat.le_refl _) _).alloc (by simp) _).alloc (by simp; omega) _
  have b6 : Blk WA w.heap.size 28 #[.slice none 0 0] := by rw [hWA]; exact ((Blk.new w _ _).alloc _).alloc _
  have b7 : Blk WA (w.heap.size + 1) 29 #[.int .i64 0] := by
    rw [hWA]; have := (Blk.new (w.alloc (.cells #[.slice none 0 0] 28)) 29 #[.int .i64 0]).alloc (.cells #[.nilIface] 31); simpa using this
  have b8 : Blk WA (w.heap.size + 2) 31 #[.nilIface] := by
    rw [hWA]; have := Blk.new ((w.alloc (.cells #[.slice none 0 0] 28)).alloc (.cells #[.int .i64 0] 29)) 31 #[.nilIface]; simpa using this
  have hsa : WA.heap.size = w.heap.size + 3 := by rw [hWA]; simp
  have CS := Lib.hid (shape_two (c := c) (hL.below hba hLB) (by omega) (show Lens WA (some ad) [8, 8] by have := (hp.new hba).lens; simpa [hx8, hy8] using this) hs.n hs.ok hs.e1 hs.e2 hs.e3 hs.e4 hs.e5 hs.e6 hs.e7 hs.e8 hs.e9 hs.e10 hs.e11 hs.e12 (b0 := true) (b1 := true) rfl rfl)
  have HPA := Lib.hid (hp.new hba)
  have HGA := Lib.hid (h.new hba)
  have HBA := Lib.hid hba
  have HB678 := Lib.hid (And.intro b6 (And.intro b7 b8))
  have HWA := Lib.hid hWA
  have HSA := Lib.hid hsa
  have H8 := Lib.hid (And.intro hx8 hy8)
  have GX := Lib.hid gx
  have GY := Lib.hid gy
  have HHI := Lib.hid HI
  have HNL := Lib.hid hn
  obtain ⟨_, _, e1, e2, e3, e4, e5, e6, e7, e8, e9, e10, e11, e12⟩ := hs
  clear h hL hp hx8 hy8 gx gy hba b6 b7 b8 hWA hsa HI hn
  have hmf : ∀ (fn : Fn) (first cap : Array Value) (w : World), (Instr.makeFunc fn first cap).run Tryd.prog w = .ok (.func fn first cap) w := fun _ _ _ _ => rfl
  go_enter_defers Tryd.func17, Tryd.ntmps17
  go_wp2_with fail
  rw [← HWA.out]
  refine CS.out.mono ?_
  rintro e w1 ⟨rfl, hb⟩
  have HP1 := Lib.hid (HPA.out.new hb)
  have HG1 := Lib.hid (HGA.out.new hb)
  have HB1 := Lib.hid hb
  obtain ⟨ad', o, hA', _, _, hcell⟩ := HPA.out.new hb
  obtain rfl : ad = ad' := by injection hA'
  have HCL := Lib.hid hcell
  clear hb hcell hA'
  go_wp2_with fail
  go_loop [21] (fun iv => LcR 2 iv) (fun iv => 2 - (intOf iv).toNat)
  case atStart => exact ⟨0, by omega, rfl⟩
  case round =>
    obtain ⟨k0, hk, rfl⟩ := hrel
    by_cases hk2 : k0 < 2
    · obtain ⟨zs, hz, hzh⟩ : ∃ zs, [xs, ys][k0]? = some zs ∧ (AllHas gs zs ∧ zs.length = 8) := by
        match k0, hk2 with
        | 0, _ => exact ⟨xs, rfl, GX.out, H8.out.1⟩
        | 1, _ => exact ⟨ys, rfl, GY.out, H8.out.2⟩
      obtain ⟨Ai, ci, hci, hh⟩ := HCL.out k0 zs hz
      obtain ⟨adz, rfl⟩ := hh.form (by rw [hzh.2]; omega)
      have HH := Lib.hid hh
      have HZ := Lib.hid hzh
      have hzl := hzh.2
      clear hz hh hzh
      rw [hzl] at hci
      clear hzl
      go_wp2_with fail
      go_loop [27] (fun jv => LcR 8 jv) (fun jv => 8 - (intOf jv).toNat)
      case atStart => exact ⟨0, by omega, rfl⟩
      case round =>
        obtain ⟨j, hj, rfl⟩ := hrel
        by_cases hj8 : j < 8
        · obtain ⟨x, hx⟩ : ∃ x, zs[j]? = some x := ⟨_, List.getElem?_eq_getElem (by have := HZ.out.2; omega)⟩
          have cx := HH.out.at_ hx
          have CX := Lib.hid (has_lit HG1.out (HZ.out.1 x (List.mem_of_getElem? hx)) HNL.out)
          clear hx
          go_wp2_with fail
          refine CX.out.mono ?_
          rintro e w' ⟨rfl, rfl⟩
          go_wp2_with fail
          go_round
          case rel => exact ⟨j + 1, by omega, by go_num⟩
          case measure => simp [intOf]; omega
        · obtain rfl : j = 8 := by omega
          go_wp2_with fail
          go_round
          case rel => exact ⟨k0 + 1, by omega, by go_num⟩
          case measure => simp [intOf]; omega
    · obtain rfl : k0 = 2 := by omega
      obtain ⟨A0, c0, h0, hh0⟩ := HCL.out 0 xs rfl
      obtain ⟨A1, c1, h1, hh1⟩ := HCL.out 1 ys rfl
      rw [H8.out.1] at h0 hh0
      rw [H8.out.2] at h1 hh1
      obtain ⟨b6, b7, b8⟩ := HB678.out
      have b6' := b6.below HB1.out (by rw [HSA.out]; omega)
      have b7' := b7.below HB1.out (by rw [HSA.out]; omega)
      have b8' := b8.below HB1.out (by rw [HSA.out]; omega)
      obtain ⟨W2, hW2⟩ : ∃ W2, W2 = (w1.alloc (.cells #[.pointer (some ⟨b, 0, none⟩)] 106)).drew := ⟨_, rfl⟩
      have b13 : Blk W2 w1.heap.size 106 #[.pointer (some ⟨b, 0, none⟩)] := by rw [hW2]; exact (Blk.new w1 _ _).drew
      have hb12 : Below w1.heap.size w1 W2 := by rw [hW2]; exact below_drewN ((Below.refl _ _).alloc (Nat.le_refl _) _) 1
      have hs1 := HB1.out.size
      have hsa := HSA.out
      have HBW2 := Lib.hid (show Below w.heap.size w W2 from HBA.out.trans ((HB1.out.trans (hb12.mono hs1)).mono (by omega)))
      have q0 := (hb12.cell (World.block_lt_of_cell? _ _ h0)).trans h0
      have q1 := (hb12.cell (World.block_lt_of_cell? _ _ h1)).trans h1
      have CI := Lib.hid (HHI.out W2 A0 A1 c0 c1 (HG1.out.new hb12) (hh0.new hb12) (hh1.new hb12))
      have HPW := Lib.hid (HP1.out.new hb12)
      have HB6 := Lib.hid (b6'.below hb12 b6'.lt)
      have HB7 := Lib.hid (b7'.below hb12 b7'.lt)
      have HB8 := Lib.hid (b8'.below hb12 b8'.lt)
      have HB13 := Lib.hid b13
      have HQ := Lib.hid (And.intro (b13.cell 0) (And.intro q0 q1))
      have HS1 := Lib.hid (And.intro hs1 hsa)
      have HW2 := Lib.hid hW2
      clear h0 h1 hh0 hh1 b6 b7 b8 b6' b7' b8' hW2 b13 hb12 q0 q1 hs1 hsa
      go_wp2_with fail
      refine wp_region_seq (S := fun w' => w'.cell? ⟨w1.heap.size, 0, none⟩ = some (.pointer (some ⟨b, 0, none⟩)) ∧ w'.cell? ad = some (.slice A0 8 c0) ∧ w'.cell? ⟨ad.block, ad.off + 1, none⟩ = some (.slice A1 8 c1)) [(0, false), (1, false), (2, false), (3, false), (4, false), (5, false), (6, false), (7, false), (8, true), (9, false), (10, false), (11, false), (12, true), (13, true)] (by kernel_rfl) (by kernel_rfl) (by kernel_rfl) (by rw [← HW2.out]; exact HQ.out) ?_
      rw [← HW2.out]
      iterate 8 (refine seq_take _ _ rfl (by kernel_rfl) (fun wv hv => by obtain ⟨hv1, hv2, hv3⟩ := hv; go_simp; try with_reducible rfl) ?_; simp only [Act.put, List.getElem_toArray, List.getElem_cons_zero, List.getElem_cons_succ, List.setIfInBounds_toArray, List.set_cons_zero, List.set_cons_succ])
      refine seq_act _ rfl (fun K hK => ?_)
      go_simp
      refine CI.out.mono ?_
      rintro e w3 ⟨A3, c3, gs3, l3, last, rfl, h1, h2, h3, h4, h5⟩
      have HG3 := Lib.hid h1
      have HC3 := Lib.hid h2
      have HO3 := Lib.hid h3
      have HM3 := Lib.hid h4
      have HM4 := Lib.hid h5
      have b13 := box_gt HB13.out h2
      have b6 : Blk w3 w.heap.size 28 #[.slice none 0 0] := HB6.out.chg h2 fun hs => by rcases hs.2 with e | e | e <;> simp [elemOf] at e
      have b7 : Blk w3 (w.heap.size + 1) 29 #[.int .i64 0] := HB7.out.chg h2 fun hs => by rcases hs.2 with e | e | e <;> simp [elemOf] at e
      have b8 : Blk w3 (w.heap.size + 2) 31 #[.nilIface] := HB8.out.chg h2 fun hs => by rcases hs.2 with e | e | e <;> simp [elemOf] at e
      have s3 : w3.cell? ⟨w1.heap.size, 0, none⟩ = some (.pointer (some ⟨b, 0, none⟩)) ∧ w3.cell? (ad.add 0) = some (.slice A0 8 c0) ∧ w3.cell? (ad.add 1) = some (.slice A1 8 c1) := ⟨b13.cell 0, (HPW.out.same h2 0).trans HQ.out.2.1, (HPW.out.same h2 1).trans HQ.out.2.2⟩
      obtain ⟨W4, hW4⟩ : ∃ W4, W4 = w3.setCell ⟨w.heap.size, 0, none⟩ (.slice A3 n c3) := ⟨_, rfl⟩
      have hs1 := HS1.out
      have hadl := HAD.out
      have s4 : W4.cell? ⟨w1.heap.size, 0, none⟩ = some (.pointer (some ⟨b, 0, none⟩)) ∧ W4.cell? (ad.add 0) = some (.slice A0 8 c0) ∧ W4.cell? (ad.add 1) = some (.slice A1 8 c1) := by
        rw [hW4]
        exact ⟨(cell_far _ (by show w.heap.size ≠ w1.heap.size; omega)).trans s3.1, (cell_far _ (by rw [block_of_add]; show w.heap.size ≠ ad.block; omega)).trans s3.2.1, (cell_far _ (by rw [block_of_add]; show w.heap.size ≠ ad.block; omega)).trans s3.2.2⟩
      have d7 : Blk W4 (w.heap.size + 1) 29 #[.int .i64 0] := by rw [hW4]; exact b7.far (p := ⟨w.heap.size, 0, none⟩) (by show w.heap.size + 1 ≠ w.heap.size; omega) _
      have d8 : Blk W4 (w.heap.size + 2) 31 #[.nilIface] := by rw [hW4]; exact b8.far (p := ⟨w.heap.size, 0, none⟩) (by show w.heap.size + 2 ≠ w.heap.size; omega) _
      have d6 : Blk W4 w.heap.size 28 #[.slice A3 n c3] := by rw [hW4]; exact b6.set_ 0 _
      obtain ⟨W5, hW5⟩ : ∃ W5, W5 = W4.setCell ⟨w.heap.size + 1, 0, none⟩ (.int .i64 (last : Nat)) := ⟨_, rfl⟩
      have s5 : W5.cell? ⟨w1.heap.size, 0, none⟩ = some (.pointer (some ⟨b, 0, none⟩)) ∧ W5.cell? (ad.add 0) = some (.slice A0 8 c0) ∧ W5.cell? (ad.add 1) = some (.slice A1 8 c1) := by
        rw [hW5]
        exact ⟨(cell_far _ (by show w.heap.size + 1 ≠ w1.heap.size; omega)).trans s4.1, (cell_far _ (by rw [block_of_add]; show w.heap.size + 1 ≠ ad.block; omega)).trans s4.2.1, (cell_far _ (by rw [block_of_add]; show w.heap.size + 1 ≠ ad.block; omega)).trans s4.2.2⟩
      have e6b : Blk W5 w.heap.size 28 #[.slice A3 n c3] := by rw [hW5]; exact d6.far (p := ⟨w.heap.size + 1, 0, none⟩) (by show w.heap.size ≠ w.heap.size + 1; omega) _
      have e7b : Blk W5 (w.heap.size + 1) 29 #[.int .i64 (last : Nat)] := by rw [hW5]; exact d7.set_ 0 _
      have e8b : Blk W5 (w.heap.size + 2) 31 #[.nilIface] := by rw [hW5]; exact d8.far (p := ⟨w.heap.size + 1, 0, none⟩) (by show w.heap.size + 2 ≠ w.heap.size + 1; omega) _
      have g5 : GA W5 B b gs3 := by rw [hW5, hW4]; exact (h1.setBlk b6 ⟨by decide, by decide⟩ _).setBlk (show Blk (w3.setCell ⟨w.heap.size, 0, none⟩ (.slice A3 n c3)) _ _ _ by rw [← hW4]; exact d7) ⟨by decide, by decide⟩ _
      have o5 : W5.ownsRow W2.heap.size 29 1 (.slice A3 n c3) n (natVals l3) := by
        have hbk : ∀ g', (Value.slice A3 n c3).ownBlock = some g' → w.heap.size + 3 ≤ g' := fun g' e => by have := (h3.lt g' e).1; have := HBW2.out.size; have := HB8.out.lt; omega
        rw [hW5, hW4]
        exact own_far (own_far h3 _ (fun e => by have := hbk _ e; omega)) _ (fun e => by have := hbk _ e; omega)
      have c5w : Chg (GT B) w W5 := by
        rw [hW5, hW4]
        exact (((Chg.of_new HBW2.out).trans h2).setCell (.inl (Nat.le_refl _)) _).setCell (.inl (by show w.heap.size ≤ w.heap.size + 1; omega)) _
      have HS4 := Lib.hid s4
      have HS5 := Lib.hid s5
      have HE5 := Lib.hid (And.intro e6b (And.intro e7b e8b))
      have HG5 := Lib.hid g5
      have HO5 := Lib.hid o5
      have HC5 := Lib.hid c5w
      have HW4 := Lib.hid hW4
      have HW5 := Lib.hid hW5
      have cc6 := b6.cell 0
      have ff6 := b6.frozen 0
      have cc7 : (w3.setCell ⟨w.heap.size, 0, none⟩ (.slice A3 n c3)).cell? ⟨w.heap.size + 1, 0, none⟩ = some (.int .i64 0) := by rw [← hW4]; exact d7.cell 0
      have ff7 : (w3.setCell ⟨w.heap.size, 0, none⟩ (.slice A3 n c3)).frozen? ⟨w.heap.size + 1, 0, none⟩ = false := by rw [← hW4]; exact d7.frozen 0
      have HS3 := Lib.hid s3
      clear h1 h2 h3 h4 h5 b13 b6 b7 b8 s3 s4 s5 hs1 hadl d6 d7 d8 e6b e7b e8b g5 o5 c5w hW4 hW5
      go_simp
      refine hK _ _ (HS3.out) ?_
      clear hK K
      iterate 3 (refine seq_take _ _ rfl (by kernel_rfl) (fun wv hv => by go_simp; try with_reducible rfl) ?_; simp only [Act.put, List.getElem_toArray, List.getElem_cons_zero, List.getElem_cons_succ, List.setIfInBounds_toArray, List.set_cons_zero, List.set_cons_succ])
      refine seq_act _ rfl (fun K hK => ?_)
      go_simp
      refine hK _ _ ((by rw [← HW4.out]; exact HS4.out)) ?_
      clear hK K
      try simp only [Act.put, List.getElem_toArray, List.getElem_cons_zero, List.getElem_cons_succ, List.setIfInBounds_toArray, List.set_cons_zero, List.set_cons_succ]
      refine seq_act _ rfl (fun K hK => ?_)
      go_simp
      refine hK _ _ ((by rw [← HW4.out, ← HW5.out]; exact HS5.out)) ?_
      clear hK K
      try simp only [Act.put, List.getElem_toArray, List.getElem_cons_zero, List.getElem_cons_succ, List.setIfInBounds_toArray, List.set_cons_zero, List.set_cons_succ]
      refine seq_nil ?_
      rw [← HW4.out, ← HW5.out]
      obtain ⟨W6, hW6⟩ : ∃ W6, W6 = W5.drew := ⟨_, rfl⟩
      obtain ⟨e6, e7, e8⟩ := HE5.out
      have e6a : Blk W6 w.heap.size 28 #[.slice A3 n c3] := by rw [hW6]; exact e6.drew
      have e7a : Blk W6 (w.heap.size + 1) 29 #[.int .i64 (last : Nat)] := by rw [hW6]; exact e7.drew
      have e8a : Blk W6 (w.heap.size + 2) 31 #[.nilIface] := by rw [hW6]; exact e8.drew
      obtain ⟨W7, hW7⟩ : ∃ W7, W7 = W6.setCell ⟨w.heap.size, 0, none⟩ (.slice A3 n c3) := ⟨_, rfl⟩
      have n01 : w.heap.size ≠ w.heap.size + 1 := by omega
      have n02 : w.heap.size ≠ w.heap.size + 2 := by omega
      have n12 : w.heap.size + 1 ≠ w.heap.size + 2 := by omega
      have e6c : Blk W7 w.heap.size 28 #[.slice A3 n c3] := by rw [hW7]; exact e6a.set_ 0 _
      have e7c : Blk W7 (w.heap.size + 1) 29 #[.int .i64 (last : Nat)] := by rw [hW7]; exact e7a.far (p := ⟨w.heap.size, 0, none⟩) n01.symm _
      have e8c : Blk W7 (w.heap.size + 2) 31 #[.nilIface] := by rw [hW7]; exact e8a.far (p := ⟨w.heap.size, 0, none⟩) n02.symm _
      obtain ⟨W8, hW8⟩ : ∃ W8, W8 = W7.setCell ⟨w.heap.size + 1, 0, none⟩ (.int .i64 (last : Nat)) := ⟨_, rfl⟩
      have e6d : Blk W8 w.heap.size 28 #[.slice A3 n c3] := by rw [hW8]; exact e6c.far (p := ⟨w.heap.size + 1, 0, none⟩) n01 _
      have e7d : Blk W8 (w.heap.size + 1) 29 #[.int .i64 (last : Nat)] := by rw [hW8]; exact e7c.set_ 0 _
      have e8d : Blk W8 (w.heap.size + 2) 31 #[.nilIface] := by rw [hW8]; exact e8c.far (p := ⟨w.heap.size + 1, 0, none⟩) n12.symm _
      obtain ⟨W9, hW9⟩ : ∃ W9, W9 = W8.setCell ⟨w.heap.size + 2, 0, none⟩ .nilIface := ⟨_, rfl⟩
      have e6e : Blk W9 w.heap.size 28 #[.slice A3 n c3] := by rw [hW9]; exact e6d.far (p := ⟨w.heap.size + 2, 0, none⟩) n02 _
      have e7e : Blk W9 (w.heap.size + 1) 29 #[.int .i64 (last : Nat)] := by rw [hW9]; exact e7d.far (p := ⟨w.heap.size + 2, 0, none⟩) n12 _
      have e8e : Blk W9 (w.heap.size + 2) 31 #[.nilIface] := by rw [hW9]; exact e8d.set_ 0 _
      have g9 : GA W9 B b gs3 := by
        have a1 : GA W7 B b gs3 := by rw [hW7]; exact (show GA W6 B b gs3 by rw [hW6]; exact HG5.out.drewN 1).setBlk e6a ⟨by decide, by decide⟩ _
        have a2 : GA W8 B b gs3 := by rw [hW8]; exact a1.setBlk e7c ⟨by decide, by decide⟩ _
        rw [hW9]; exact a2.setBlk e8d ⟨by decide, by decide⟩ _
      have o9 : W9.ownsRow W2.heap.size 29 1 (.slice A3 n c3) n (natVals l3) := by
        have hbk : ∀ g', (Value.slice A3 n c3).ownBlock = some g' → w.heap.size + 3 ≤ g' := fun g' e => by have := (HO3.out.lt g' e).1; have := HBW2.out.size; have := HB8.out.lt; omega
        have a0 : W6.ownsRow W2.heap.size 29 1 (.slice A3 n c3) n (natVals l3) := by rw [hW6]; exact HO5.out
        rw [hW9, hW8, hW7]
        exact own_far (own_far (own_far a0 _ (fun e => by have := hbk _ e; omega)) _ (fun e => by have := hbk _ e; omega)) _ (fun e => by have := hbk _ e; omega)
      have c9 : Chg (GT B) w W9 := by
        rw [hW9, hW8, hW7, hW6]
        exact ((HC5.out.drew.setCell (.inl (Nat.le_refl _)) _).setCell (.inl (by show w.heap.size ≤ w.heap.size + 1; omega)) _).setCell (.inl (by show w.heap.size ≤ w.heap.size + 2; omega)) _
      have x6 := e6a.cell 0
      have x7 := e7a.cell 0
      have HSa := Lib.hid (And.intro x6 x7)
      have HSb := Lib.hid (And.intro (e6c.cell 0) (e7c.cell 0))
      have HSc := Lib.hid (And.intro (e6d.cell 0) (e7d.cell 0))
      have HSd := Lib.hid (And.intro (e6e.cell 0) (e7e.cell 0))
      have f6 := e6a.frozen 0
      have f7 : (W6.setCell ⟨w.heap.size, 0, none⟩ (.slice A3 n c3)).frozen? ⟨w.heap.size + 1, 0, none⟩ = false := by rw [← hW7]; exact e7c.frozen 0
      have x7' : (W6.setCell ⟨w.heap.size, 0, none⟩ (.slice A3 n c3)).cell? ⟨w.heap.size + 1, 0, none⟩ = some (.int .i64 (last : Nat)) := by rw [← hW7]; exact e7c.cell 0
      have f8 : ((W6.setCell ⟨w.heap.size, 0, none⟩ (.slice A3 n c3)).setCell ⟨w.heap.size + 1, 0, none⟩ (.int .i64 (last : Nat))).frozen? ⟨w.heap.size + 2, 0, none⟩ = false := by rw [← hW7, ← hW8]; exact e8d.frozen 0
      have x8' : ((W6.setCell ⟨w.heap.size, 0, none⟩ (.slice A3 n c3)).setCell ⟨w.heap.size + 1, 0, none⟩ (.int .i64 (last : Nat))).cell? ⟨w.heap.size + 2, 0, none⟩ = some .nilIface := by rw [← hW7, ← hW8]; exact e8d.cell 0
      have HE9 := Lib.hid (And.intro e6e (And.intro e7e e8e))
      have HG9 := Lib.hid g9
      have HO9 := Lib.hid o9
      have HC9 := Lib.hid c9
      have HW6 := Lib.hid hW6
      have HW7 := Lib.hid hW7
      have HW8 := Lib.hid hW8
      have HW9 := Lib.hid hW9
      clear e6 e7 e8 e6a e7a e8a e6c e7c e8c e6d e7d e8d e6e e7e e8e g9 o9 c9 hW6 hW7 hW8 hW9 cc6 ff6 cc7 ff7
      go_wp2_with fail
      refine wp_region_seq (S := fun w' => w'.cell? ⟨w.heap.size, 0, none⟩ = some (.slice A3 n c3) ∧ w'.cell? ⟨w.heap.size + 1, 0, none⟩ = some (.int .i64 (last : Nat))) [(0, false), (1, false), (2, true), (3, true), (4, true)] (by kernel_rfl) (by kernel_rfl) (by kernel_rfl) (by rw [← HW6.out]; exact HSa.out) ?_
      rw [← HW6.out]
      iterate 2 (refine seq_take _ _ rfl (by kernel_rfl) (fun wv hv => by obtain ⟨hv1, hv2⟩ := hv; go_simp; try with_reducible rfl) ?_; simp only [Act.put, List.getElem_toArray, List.getElem_cons_zero, List.getElem_cons_succ, List.setIfInBounds_toArray, List.set_cons_zero, List.set_cons_succ])
      refine seq_act _ rfl (fun K hK => ?_)
      go_simp
      refine hK _ _ ((by rw [← HW7.out]; exact HSb.out)) ?_
      clear hK K
      try simp only [Act.put, List.getElem_toArray, List.getElem_cons_zero, List.getElem_cons_succ, List.setIfInBounds_toArray, List.set_cons_zero, List.set_cons_succ]
      refine seq_act _ rfl (fun K hK => ?_)
      go_simp
      refine hK _ _ ((by rw [← HW7.out, ← HW8.out]; exact HSc.out)) ?_
      clear hK K
      try simp only [Act.put, List.getElem_toArray, List.getElem_cons_zero, List.getElem_cons_succ, List.setIfInBounds_toArray, List.set_cons_zero, List.set_cons_succ]
      refine seq_act _ rfl (fun K hK => ?_)
      go_simp
      refine hK _ _ ((by rw [← HW7.out, ← HW8.out, ← HW9.out]; exact HSd.out)) ?_
      clear hK K
      try simp only [Act.put, List.getElem_toArray, List.getElem_cons_zero, List.getElem_cons_succ, List.setIfInBounds_toArray, List.set_cons_zero, List.set_cons_succ]
      refine seq_nil ?_
      rw [← HW7.out, ← HW8.out, ← HW9.out]
      clear x6 x7 f6 f7 x7' f8 x8'
      go_wp2_with fail
      refine leaves_cons (f := 42) (args := #[.pointer (some ⟨w.heap.size, 0, none⟩), .pointer (some ⟨w.heap.size + 1, 0, none⟩), .pointer (some ⟨w.heap.size + 2, 0, none⟩)]) (by simp) (by simp [go_sem]) ?_
      refine (of_idle _ _ _ _).mono ?_
      rintro e u' w'' ⟨rfl, rfl, rfl⟩
      have x6 := HE9.out.1.cell 0
      have x7 := HE9.out.2.1.cell 0
      have x8 := HE9.out.2.2.cell 0
      have key : OfP w B b gs k n f g (.returned (.tuple #[.slice A3 n c3, .int .i64 (last : Nat), .nilIface])) w'' := ⟨A3, c3, gs3, l3, last, rfl, HG9.out, HC9.out, own_base HO9.out HBW2.out.size, HM3.out, HM4.out⟩
      have HKEY := Lib.hid key
      clear key
      simp [Leaves, settle, results, Tryd.results17, go_sem, x6, x7, x8]
      exact HKEY.out
end Go.Proofs.YtmbjhpgemphmmaaDoor
