/-
  WALK of the document's CheckOf.
  WALKS: cnf.Check, which fault; faulted.
-/
import Derived.Test.YtaedbnbeelkkcaaDoorCx
import Derived.Test.YtaedbnbeelkkcaaDoorCe
namespace Go.Proofs.YtaedbnbeelkkcaaDoor
open Go.RowKit
theorem bare_any (w : World) (k : Int) : Calls Tryd.prog 20 #[.int .i64 k] w fun e w' => e = .returned (.agg #[.int .i64 k, .int .i64 (-1)]) ∧ w' = w.alloc (.cells #[.int .i64 k, .int .i64 (-1)] 37) := by
  go_enter Tryd.func20, Tryd.ntmps20
  go_wp2
  exact bodyPost_ret (v := .agg #[.int .i64 k, .int .i64 (-1)]) (by simp [results, Tryd.results20, go_sem]) rfl ⟨rfl, rfl⟩
theorem fine_any (w : World) : Calls Tryd.prog 22 #[] w fun e w' => e = .returned (.agg #[.int .i64 0, .int .i64 (-1)]) ∧ w' = w.alloc (.cells #[.int .i64 0, .int .i64 (-1)] 37) := by
  go_enter Tryd.func22, Tryd.ntmps22
  go_wp2
  exact bodyPost_ret (v := .agg #[.int .i64 0, .int .i64 (-1)]) (by simp [results, Tryd.results22, go_sem]) rfl ⟨rfl, rfl⟩
/-- CheckOf's answer -/
def CoP (w : World) (v : Int) (cs : List (List Int)) (e : Ending) (w' : World) : Prop := ∃ c at_, e = .returned (.agg #[.int .i64 c, .int .i64 at_]) ∧ Below w.heap.size w w' ∧ FaultIs v cs c at_
set_option maxRecDepth 100000 in
set_option maxHeartbeats 1000000 in
theorem checkOf_off {w : World} {v : Int} {A : Option Addr} {n c : Nat} {cs : List (List Int)} (hn : cs.length = n) (h : Off v n) : Calls Tryd.prog 9 #[.agg #[.int .i64 v, .slice A n c]] w (CoP w v cs) := by
  have HO := Lib.hid (show Off v cs.length by rw [hn]; exact h)
  have key : decide (v < 0) = true ∨ (decide (v < 0) = false ∧ decide (150000 < v) = true) ∨ (decide (v < 0) = false ∧ decide (150000 < v) = false ∧ decide (500000 < (n : Int)) = true) := by
    unfold Off at h
    simp only [decide_eq_true_eq, decide_eq_false_iff_not]; omega
  clear h hn
  rcases key with e1 | ⟨e1, e2⟩ | ⟨e1, e2, e3⟩
  all_goals
    go_enter Tryd.func9, Tryd.ntmps9
    go_wp2_with fail
    refine (bare_any _ _).mono ?_
    rintro e w2 ⟨rfl, rfl⟩
    go_wp2_with fail
    exact bodyPost_ret (v := .agg #[.int .i64 2, .int .i64 (-1)]) (by simp [results, Tryd.results9, go_sem]) rfl ⟨2, -1, rfl, bal0 (bal0 (bal0 (Below.refl _ _) _) _) _, .inl ⟨HO.out, rfl, rfl⟩⟩
def CoR (W1 : World) (v : Int) (cs : List (List Int)) (iv : Value) (wr : World) : Prop := ∃ k : Nat, k ≤ cs.length ∧ iv = .int .i64 (k : Nat) ∧ (cs.take k).all (okC v) = true ∧ Below W1.heap.size W1 wr
set_option maxRecDepth 100000 in
set_option maxHeartbeats 4000000 in
theorem checkOf_in {w : World} {B : Nat} {v : Int} {A : Option Addr} {n c : Nat} {cs : List (List Int)} (hn : cs.length = n) (h : ¬ Off v n) (hls : ∀ x ∈ cs, x.length ≤ 1000000) (hr : ClsR w B A cs) (hB : B ≤ w.heap.size) : Calls Tryd.prog 9 #[.agg #[.int .i64 v, .slice A n c]] w (CoP w v cs) := by
  have hv : 0 ≤ v ∧ v ≤ 150000 ∧ n ≤ 500000 := by unfold Off at h; omega
  obtain ⟨W1, hW1⟩ : ∃ W1, W1 = (w.alloc (.cells #[.int .i64 v, .slice A n c] 24)).alloc (.cells #[.int .i64 0, .int .i64 0] 37) := ⟨_, rfl⟩
  have hb1 : Below w.heap.size w W1 := by rw [hW1]; exact bal0 (bal0 (Below.refl _ _) _) _
  have k1 : Blk W1 w.heap.size 24 #[.int .i64 v, .slice A n c] := by rw [hW1]; exact (Blk.new w _ _).alloc _
  have k2 : Blk W1 (w.heap.size + 1) 37 #[.int .i64 0, .int .i64 0] := by
    rw [hW1]
    have h := Blk.new (w.alloc (.cells #[.int .i64 v, .slice A n c] 24)) 37 #[.int .i64 0, .int .i64 0]
    simpa using h
  have e1 : decide (v < 0) = false := decide_eq_false (by omega)
  have e2 : decide (150000 < v) = false := decide_eq_false (by omega)
  have e3 : decide (500000 < (n : Int)) = false := decide_eq_false (by omega)
  have HF := Lib.hid (show ¬ Off v cs.length by rw [hn]; exact h)
  have HW1 := Lib.hid hW1
  have HB1 := Lib.hid hb1
  have HK1 := Lib.hid k1
  have HK2 := Lib.hid k2
  have HR := Lib.hid hr
  have HV := Lib.hid hv
  have HBB := Lib.hid hB
  have HLS := Lib.hid hls
  have HN := Lib.hid hn
  have hn5 : n ≤ 500000 := hv.2.2
  have hbw : B ≤ W1.heap.size := Nat.le_trans hB hb1.size
  clear hW1 hb1 k1 k2 hr hv hB hls h
  go_enter Tryd.func9, Tryd.ntmps9
  go_upto_region 1 with fail
  rw [← HW1.out]
  have c0 := HK1.out.cell 0
  have c1 := HK1.out.cell 1
  go_wp2_with fail
  clear c0 c1
  go_loopw [3] (fun iv wr => CoR W1 v cs iv wr) (fun iv _ => cs.length - (intOf iv).toNat)
  case atStart => exact ⟨0, Nat.zero_le _, rfl, by simp, Below.refl _ _⟩
  case round =>
    obtain ⟨k, hk, rfl, hal, hb⟩ := hrel
    rw [HN.out] at hk
    have HAL := Lib.hid hal
    have HB := Lib.hid (HB1.out.trans (hb.mono HB1.out.size))
    have HBW := Lib.hid hb
    have HKr := Lib.hid (HK1.out.below hb HK1.out.lt)
    have HK2r := Lib.hid (HK2.out.below hb HK2.out.lt)
    have c0 := HKr.out.cell 0
    have c1 := HKr.out.cell 1
    clear hal hb
    by_cases hk2 : k < n
    · obtain ⟨x, hx⟩ : ∃ x, cs[k]? = some x := ⟨_, List.getElem?_eq_getElem (by have := HN.out; omega)⟩
      obtain ⟨ad, hA, hadb, hc⟩ := HR.out (by have := HN.out; omega)
      subst hA
      obtain ⟨Ax, cx, hcell, hrx⟩ := hc k x hx
      obtain ⟨m, hm⟩ : ∃ m, x.length = m := ⟨_, rfl⟩
      rw [hm] at hcell hrx
      have hm6 : m ≤ 1000000 := by rw [← hm]; exact HLS.out x (List.mem_of_getElem? hx)
      obtain ⟨W2, hW2⟩ : ∃ W2, W2 = wr.drew := ⟨_, rfl⟩
      have hb2 : Below w.heap.size w W2 := by rw [hW2]; exact below_drewN HB.out 1
      have hbw2 : Below W1.heap.size W1 W2 := by rw [hW2]; exact below_drewN HBW.out 1
      have ck : W2.cell? (ad.add k) = some (.slice Ax m cx) := (hb2.cell (p := ad.add k) (by rw [block_of_add]; exact Nat.lt_of_lt_of_le hadb HBB.out)).trans hcell
      have k12 : Blk W2 w.heap.size 24 #[.int .i64 v, .slice (some ad) n c] := by rw [hW2]; exact HKr.out
      have k22 : Blk W2 (w.heap.size + 1) 37 #[.int .i64 0, .int .i64 0] := by rw [hW2]; exact HK2r.out
      have CR := Lib.hid (clauseRight_any (c := cx) hm hm6 (show 0 ≤ v ∧ v ≤ 150000 from ⟨HV.out.1, HV.out.2.1⟩) (hrx.below (hb2.mono HBB.out)))
      have HSS := Lib.hid (And.intro (k12.cell 0) (And.intro (k12.cell 1) ck))
      have HX := Lib.hid hx
      have HB2 := Lib.hid hb2
      have HBW2 := Lib.hid hbw2
      have HK22 := Lib.hid k22
      have HW2 := Lib.hid hW2
      clear hc hcell hrx hx hm hW2 hb2 hbw2 ck k12 k22
      go_wp2_with fail
      clear c0 c1
      refine wp_region_seq (S := fun w' => w'.cell? ⟨w.heap.size, 0, none⟩ = some (.int .i64 v) ∧ w'.cell? ⟨w.heap.size, 1, none⟩ = some (.slice (some ad) n c) ∧ w'.cell? (ad.add k) = some (.slice Ax m cx)) [(0, false), (1, false), (2, false), (3, false), (4, false), (5, false), (6, false), (7, true), (8, false)] (by kernel_rfl) (by kernel_rfl) (by kernel_rfl) (by rw [← HW2.out]; exact HSS.out) ?_
      rw [← HW2.out]
      iterate 7 (refine seq_take _ _ rfl (by kernel_rfl) (fun wv hv => by obtain ⟨hv1, hv2, hv3⟩ := hv; go_simp; try with_reducible rfl) ?_; simp only [Act.put, List.getElem_toArray, List.getElem_cons_zero, List.getElem_cons_succ, List.setIfInBounds_toArray, List.set_cons_zero, List.set_cons_succ])
      refine seq_act _ rfl (fun K hK => ?_)
      go_simp
      refine CR.out.mono ?_
      rintro e w7 ⟨rfl, hw7⟩
      obtain rfl := hw7
      obtain ⟨bb, hbb⟩ : ∃ bb, okC v x = bb := ⟨_, rfl⟩
      rw [hbb]
      have HBB2 := Lib.hid hbb
      clear hbb
      go_simp
      refine hK _ _ (HSS.out) ?_
      clear hK K
      iterate 1 (refine seq_take _ _ rfl (by kernel_rfl) (fun wv hv => by go_simp; try with_reducible rfl) ?_; simp only [Act.put, List.getElem_toArray, List.getElem_cons_zero, List.getElem_cons_succ, List.setIfInBounds_toArray, List.set_cons_zero, List.set_cons_succ])
      refine seq_nil ?_
      cases bb with
      | true =>
        go_wp2_with fail
        go_roundw
        case rel =>
          refine ⟨k + 1, by have := HN.out; omega, by go_num, ?_, HBW2.out⟩
          rw [Gm.take_one HX.out, List.all_append, HAL.out]
          simp [HBB2.out]
        case measure => have := HN.out; simp [intOf]; omega
      | false =>
        have y0 := (HK22.out).cell 0
        have y1 := (HK22.out).cell 1
        have f0 := (HK22.out).frozen 0
        have f1 := (HK22.out).frozen 1
        obtain ⟨W9, hW9⟩ : ∃ W9, W9 = (W2.setCell ⟨w.heap.size + 1, 0, none⟩ (.int .i64 3)).setCell ⟨w.heap.size + 1, 1, none⟩ (.int .i64 (k : Int)) := ⟨_, rfl⟩
        have x9 : Blk W9 (w.heap.size + 1) 37 #[.int .i64 3, .int .i64 (k : Int)] := by rw [hW9]; exact ((HK22.out).set_ 0 _).set_ 1 _
        have HB9 := Lib.hid (show Below w.heap.size w W9 by rw [hW9]; exact ((HB2.out).setCell (by show w.heap.size ≤ w.heap.size + 1; omega) _).setCell (by show w.heap.size ≤ w.heap.size + 1; omega) _)
        have x90 := x9.cell 0
        have x91 := x9.cell 1
        have HW9 := Lib.hid hW9
        clear hW9 x9
        go_wp2_with fail
        rw [← HW9.out]
        exact bodyPost_ret (v := .agg #[.int .i64 3, .int .i64 (k : Int)]) (by simp [results, Tryd.results9, go_sem, x90, x91]) rfl ⟨_, _, rfl, HB9.out, .inr ⟨HF.out, .inl ⟨rfl, k, x, rfl, HX.out, HBB2.out, HAL.out⟩⟩⟩
    · obtain rfl : n = k := by omega
      have hal := HAL.out
      rw [List.take_of_length_le (by have := HN.out; omega)] at hal
      have HAL2 := Lib.hid hal
      clear hal
      go_wp2_with fail
      clear c0 c1
      refine (fine_any _).mono ?_
      rintro e w8 ⟨rfl, hw8⟩
      have hb8 : Below wr.heap.size wr w8 := by rw [hw8]; exact (Below.refl _ _).alloc (Nat.le_refl _) _
      have HB8 := Lib.hid (HB.out.trans (hb8.mono HB.out.size))
      have HK28 := Lib.hid (HK2r.out.below hb8 HK2r.out.lt)
      clear hw8 hb8
      have y0 := (HK28.out).cell 0
      have y1 := (HK28.out).cell 1
      have f0 := (HK28.out).frozen 0
      have f1 := (HK28.out).frozen 1
      obtain ⟨W9, hW9⟩ : ∃ W9, W9 = (w8.setCell ⟨w.heap.size + 1, 0, none⟩ (.int .i64 0)).setCell ⟨w.heap.size + 1, 1, none⟩ (.int .i64 (-1)) := ⟨_, rfl⟩
      have x9 : Blk W9 (w.heap.size + 1) 37 #[.int .i64 0, .int .i64 (-1)] := by rw [hW9]; exact ((HK28.out).set_ 0 _).set_ 1 _
      have HB9 := Lib.hid (show Below w.heap.size w W9 by rw [hW9]; exact ((HB8.out).setCell (by show w.heap.size ≤ w.heap.size + 1; omega) _).setCell (by show w.heap.size ≤ w.heap.size + 1; omega) _)
      have x90 := x9.cell 0
      have x91 := x9.cell 1
      have HW9 := Lib.hid hW9
      clear hW9 x9
      go_wp2_with fail
      rw [← HW9.out]
      exact bodyPost_ret (v := .agg #[.int .i64 0, .int .i64 (-1)]) (by simp [results, Tryd.results9, go_sem, x90, x91]) rfl ⟨_, _, rfl, HB9.out, .inr ⟨HF.out, .inr ⟨rfl, rfl, HAL2.out⟩⟩⟩
theorem checkOf_any {w : World} {B : Nat} {v : Int} {A : Option Addr} {n c : Nat} {cs : List (List Int)} (hn : cs.length = n) (hls : cs.length ≤ 500000 → ∀ x ∈ cs, x.length ≤ 1000000) (hr : ClsR w B A cs) (hB : B ≤ w.heap.size) : Calls Tryd.prog 9 #[.agg #[.int .i64 v, .slice A n c]] w (CoP w v cs) := by
  by_cases h : Off v n
  · exact checkOf_off hn h
  · exact checkOf_in hn h (hls (by unfold Off at h; omega)) hr hB
end Go.Proofs.YtaedbnbeelkkcaaDoor
namespace Go.Proofs.YtaedbnbeelkkcaaDoor
open Go.RowKit
/-- an error that is that fault -/
def EvAt (w : World) (ea : Nat → Addr) (ev : Value) (c at_ : Int) : Prop :=
  (c = 0 ∧ ev = .nilIface) ∨ (c = 2 ∧ at_ = -1 ∧ ev = errV ea 2) ∨ (c = 3 ∧ ∃ pb, ev = .iface 61 (.pointer (some ⟨pb, 0, none⟩)) ∧ w.cell? ⟨pb, 0, none⟩ = some (.int .i64 at_) ∧ w.cell? ⟨pb, 1, none⟩ = some (errV ea 3))
theorem EvAt.below {w w' : World} {ea : Nat → Addr} {ev : Value} {c at_ : Int} (h : EvAt w ea ev c at_) (hb : Below w.heap.size w w') : EvAt w' ea ev c at_ := by
  rcases h with h | h | ⟨h1, pb, h2, h3, h4⟩
  · exact .inl h
  · exact .inr (.inl h)
  · exact .inr (.inr ⟨h1, pb, h2, (hb.cell (World.block_lt_of_cell? _ _ h3)).trans h3, (hb.cell (World.block_lt_of_cell? _ _ h4)).trans h4⟩)
theorem faulted_ev {w : World} {ea : Nat → Addr} {B : Nat} (he : Errs w ea B) (hB : B ≤ w.heap.size) {ev : Value} {c at_ : Int} (h : EvAt w ea ev c at_) :
    Calls Tryd.prog 10 #[ev, .agg #[.int .i64 c, .int .i64 at_]] w fun e w' => e = .returned (.bool true) ∧ Below w.heap.size w w' := by
  have hb : Below w.heap.size w (w.alloc (.cells #[.int .i64 c, .int .i64 at_] 37)) := (Below.refl _ _).alloc (Nat.le_refl _) _
  have he2 := he.below (hb.mono hB)
  have hB2 := Nat.le_trans hB hb.size
  rcases h with ⟨rfl, rfl⟩ | ⟨rfl, rfl, rfl⟩ | ⟨rfl, pb, rfl, h3, h4⟩
  · exact faulted_of (n := 0) (at_ := -1) ((code_nil _).mono fun e w' h => ⟨h.1, h.2 ▸ Below.refl _ _⟩) rfl (.inl rfl)
  · exact faulted_of (n := (2 : Nat)) (at_ := -1) (code_sent he2 hB2 (k := 2) (by omega) (by omega)) rfl (.inr rfl)
  · exact faulted_of (n := (3 : Nat)) (at_ := at_) (code_fault he2 hB2 (k := 3) (by omega) (by omega) ((hb.cell (World.block_lt_of_cell? _ _ h3)).trans h3) ((hb.cell (World.block_lt_of_cell? _ _ h4)).trans h4)) rfl (.inr rfl)
/-- Check's answer -/
def CxP (w : World) (ea : Nat → Addr) (v : Int) (cs : List (List Int)) (e : Ending) (w' : World) : Prop := ∃ ev c at_, e = .returned ev ∧ Below w.heap.size w w' ∧ FaultIs v cs c at_ ∧ EvAt w' ea ev c at_
set_option maxHeartbeats 1000000 in
theorem checkx_bad {w : World} {ea : Nat → Addr} {EB : Nat} {v : Int} {A : Option Addr} {n c : Nat} {cs : List (List Int)} (hn : cs.length = n) (hes : Errs w ea EB) (h : v < 0 ∨ 150000 < v ∨ 500000 < n) :
    Calls Tryd.prog 15 #[.agg #[.int .i64 v, .slice A n c]] w (CxP w ea v cs) := by
  obtain ⟨p, hp⟩ : ∃ p, ea 2 = p := ⟨_, rfl⟩
  have he : w.cell? ⟨0, 0, none⟩ = some (.iface 143 (.pointer (some p))) := by rw [← hp]; exact hes.var 2 (by omega) (by omega)
  have HP := Lib.hid hp
  have HO := Lib.hid (show Off v cs.length from by unfold Off; omega)
  clear hes hp
  have hlt := World.block_lt_of_cell? w _ he
  have he' : (w.alloc (.cells #[.int .i64 v, .slice A n c] 29)).cell? ⟨0, 0, none⟩ = some (.iface 143 (.pointer (some p))) := by rw [World.cell?_alloc_lt _ _ ⟨_, 0, none⟩ hlt]; exact he
  by_cases h1 : v < 0
  · have e1 : decide (v < 0) = true := decide_eq_true h1
    clear h h1 he
    go_enter Tryd.func15, Tryd.ntmps15
    go_wp2_with fail
    go_ret
    exact ⟨_, _, _, rfl, (Below.refl _ _).alloc (Nat.le_refl _) _, .inl ⟨HO.out, rfl, rfl⟩, .inr (.inl ⟨rfl, rfl, by unfold errV; rw [HP.out]; rfl⟩)⟩
  · have e1 : decide (v < 0) = false := decide_eq_false h1
    by_cases h2 : 150000 < v
    · have e2 : decide (150000 < v) = true := decide_eq_true h2
      clear h h1 h2 he
      go_enter Tryd.func15, Tryd.ntmps15
      go_wp2_with fail
      go_ret
      exact ⟨_, _, _, rfl, (Below.refl _ _).alloc (Nat.le_refl _) _, .inl ⟨HO.out, rfl, rfl⟩, .inr (.inl ⟨rfl, rfl, by unfold errV; rw [HP.out]; rfl⟩)⟩
    · have e2 : decide (150000 < v) = false := decide_eq_false h2
      have e3 : decide (500000 < (n : Int)) = true := decide_eq_true (by omega)
      clear h h1 h2 he
      go_enter Tryd.func15, Tryd.ntmps15
      go_wp2_with fail
      go_ret
      exact ⟨_, _, _, rfl, (Below.refl _ _).alloc (Nat.le_refl _) _, .inl ⟨HO.out, rfl, rfl⟩, .inr (.inl ⟨rfl, rfl, by unfold errV; rw [HP.out]; rfl⟩)⟩
set_option maxRecDepth 100000 in
set_option maxHeartbeats 2000000 in
theorem checkx_in {w : World} {B : Nat} {ea : Nat → Addr} {EB : Nat} {v : Int} {A : Option Addr} {n c : Nat} {cs : List (List Int)} (hn : cs.length = n) (hes : Errs w ea EB) (hv : 0 ≤ v ∧ v ≤ 150000) (hn5 : n ≤ 500000)
    (hls : ∀ x ∈ cs, x.length ≤ 1000000) (hr : ClsR w B A cs) (hB : B ≤ w.heap.size) : Calls Tryd.prog 15 #[.agg #[.int .i64 v, .slice A n c]] w (CxP w ea v cs) := by
  obtain ⟨p, hp⟩ : ∃ p, ea 3 = p := ⟨_, rfl⟩
  have he : w.cell? ⟨1, 0, none⟩ = some (.iface 143 (.pointer (some p))) := by rw [← hp]; exact hes.var 3 (by omega) (by omega)
  have HP := Lib.hid hp
  clear hes hp
  have HLS := Lib.hid hls
  have hlt := World.block_lt_of_cell? w _ he
  obtain ⟨W1, hW1⟩ : ∃ W1, W1 = w.alloc (.cells #[.int .i64 v, .slice A n c] 29) := ⟨_, rfl⟩
  have hb1 : Below w.heap.size w W1 := by rw [hW1]; exact (Below.refl _ _).alloc (Nat.le_refl _) _
  have k1 : Blk W1 w.heap.size 29 #[.int .i64 v, .slice A n c] := by rw [hW1]; exact Blk.new w _ _
  have e1 : decide (v < 0) = false := decide_eq_false (by omega)
  have e2 : decide (150000 < v) = false := decide_eq_false (by omega)
  have e3 : decide (500000 < (n : Int)) = false := decide_eq_false (by omega)
  have HF := Lib.hid (show ¬ Off v cs.length by unfold Off; omega)
  have HW1 := Lib.hid hW1
  have HB1 := Lib.hid hb1
  have HK1 := Lib.hid k1
  have HE := Lib.hid (And.intro he hlt)
  have HR := Lib.hid (hr.below (hb1.mono hB))
  have HV := Lib.hid hv
  have HBB := Lib.hid (Nat.le_trans hB hb1.size)
  clear hW1 hb1 k1 he hlt hr hv hls
  go_enter Tryd.func15, Tryd.ntmps15
  go_upto_region 1 with fail
  rw [← HW1.out]
  have c0 := HK1.out.cell 0
  have c1 := HK1.out.cell 1
  go_wp2_with fail
  clear c0 c1
  go_loopw [23] (fun iv wr => CkR W1 v cs iv wr) (fun iv _ => cs.length - (intOf iv).toNat)
  case atStart => exact ⟨0, Nat.zero_le _, rfl, by simp, Below.refl _ _⟩
  case round =>
    obtain ⟨k, hk, rfl, hal, hb⟩ := hrel
    rw [hn] at hk
    have HAL := Lib.hid hal
    have HB := Lib.hid (HB1.out.trans (hb.mono HB1.out.size))
    have HBW := Lib.hid hb
    have kr := HK1.out.below hb HK1.out.lt
    have HKR := Lib.hid kr
    clear hal hb kr
    by_cases hk2 : k < n
    · obtain ⟨x, hx⟩ : ∃ x, cs[k]? = some x := ⟨_, List.getElem?_eq_getElem (by omega)⟩
      obtain ⟨ad, hA, hadb, hc⟩ := (HR.out.below (HBW.out.mono HBB.out)) (by omega)
      subst hA
      obtain ⟨Ax, cx, hcell, hrx⟩ := hc k x hx
      obtain ⟨m, hm⟩ : ∃ m, x.length = m := ⟨_, rfl⟩
      rw [hm] at hcell hrx
      have C := Lib.hid (cright_any (c := cx) hm (by rw [← hm]; exact HLS.out x (List.mem_of_getElem? hx)) HV.out hrx (Nat.le_trans HBB.out HBW.out.size))
      have c0 := HKR.out.cell 0
      have HX := Lib.hid hx
      clear hc hrx hx hm
      go_wp2_with fail
      refine C.out.mono ?_
      rintro e w2 ⟨rfl, hb2⟩
      obtain ⟨bb, hbb⟩ : ∃ bb, okC v x = bb := ⟨_, rfl⟩
      rw [hbb]
      have HBB2 := Lib.hid hbb
      have HB2 := Lib.hid (HB.out.trans (hb2.mono HB.out.size))
      have HBW2 := Lib.hid (HBW.out.trans (hb2.mono HBW.out.size))
      have ce := (HB2.out.cell (p := ⟨1, 0, none⟩) HE.out.2).trans HE.out.1
      clear hbb hb2 c0 hcell
      cases bb with
      | true =>
        clear ce
        go_wp2_with fail
        go_roundw
        case rel =>
          refine ⟨k + 1, by omega, by go_num, ?_, HBW2.out⟩
          rw [Gm.take_one HX.out, List.all_append, HAL.out]
          simp [HBB2.out]
        case measure => simp [intOf]; omega
      | false =>
        go_wp2_with fail
        go_ret
        refine ⟨_, 3, (k : Int), rfl, HB2.out.alloc HB2.out.size _, .inr ⟨HF.out, .inl ⟨rfl, k, x, rfl, HX.out, HBB2.out, HAL.out⟩⟩, .inr (.inr ⟨rfl, w2.heap.size, rfl, (Blk.new w2 _ _).cell 0, ?_⟩)⟩
        rw [(Blk.new w2 _ _).cell 1]; unfold errV; rw [HP.out]; rfl
    · obtain rfl : n = k := by omega
      have hal := HAL.out
      rw [List.take_of_length_le (by omega)] at hal
      have HAL2 := Lib.hid hal
      clear hal
      go_wp2_with fail
      go_ret
      exact ⟨_, 0, -1, rfl, HB.out, .inr ⟨HF.out, .inr ⟨rfl, rfl, HAL2.out⟩⟩, .inl ⟨rfl, rfl⟩⟩
theorem checkx_any {w : World} {B : Nat} {ea : Nat → Addr} {EB : Nat} {v : Int} {A : Option Addr} {n c : Nat} {cs : List (List Int)} (hn : cs.length = n) (hes : Errs w ea EB) (hls : cs.length ≤ 500000 → ∀ x ∈ cs, x.length ≤ 1000000) (hr : ClsR w B A cs) (hB : B ≤ w.heap.size) : Calls Tryd.prog 15 #[.agg #[.int .i64 v, .slice A n c]] w (CxP w ea v cs) := by
  by_cases h : v < 0 ∨ 150000 < v ∨ 500000 < n
  · exact checkx_bad hn hes h
  · exact checkx_in hn hes (by omega) (by omega) (hls (by omega)) hr hB
end Go.Proofs.YtaedbnbeelkkcaaDoor
