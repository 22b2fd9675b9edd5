/-
  WALKS: the document's ClauseRight and CheckOf; cnf.Check, which fault.
-/
import Derived.Test.YtaedbnbeelkkcaaDoorRo
import Derived.Test.YtaedbnbeelkkcaaDoorHs
namespace Go.Proofs.YtaedbnbeelkkcaaDoor
open Go.RowKit
/-- which fault a formula has -/
def Off (v : Int) (n : Nat) : Prop := v < 0 ∨ 150000 < v ∨ 500000 < n
def FaultIs (v : Int) (cs : List (List Int)) (c at_ : Int) : Prop :=
  (Off v cs.length ∧ c = 2 ∧ at_ = -1) ∨ (¬ Off v cs.length ∧ ((c = 3 ∧ ∃ (i : Nat) (x : List Int), at_ = (i : Int) ∧ cs[i]? = some x ∧ okC v x = false ∧ (cs.take i).all (okC v) = true) ∨ (c = 0 ∧ at_ = -1 ∧ cs.all (okC v) = true)))
theorem first_badC {v : Int} {cs : List (List Int)} {i j : Nat} {x : List Int} (hj : cs[j]? = some x) (hx : okC v x = false) (h : (cs.take i).all (okC v) = true) : i ≤ j := by
  rcases Nat.lt_or_ge j i with hlt | hge
  · have h1 : (cs.take i)[j]? = some x := by rw [List.getElem?_take_of_lt hlt]; exact hj
    have := List.all_eq_true.1 h x (List.mem_of_getElem? h1)
    rw [hx] at this; cases this
  · exact hge
theorem faultIs_eq {v : Int} {cs : List (List Int)} {c c2 a a2 : Int} (h : FaultIs v cs c a) (k : FaultIs v cs c2 a2) : c = c2 ∧ a = a2 := by
  rcases h with ⟨h, rfl, rfl⟩ | ⟨hn, h⟩
  · rcases k with ⟨_, rfl, rfl⟩ | ⟨kn, _⟩
    · exact ⟨rfl, rfl⟩
    · exact absurd h kn
  · rcases k with ⟨k, _, _⟩ | ⟨_, k⟩
    · exact absurd k hn
    · rcases h with ⟨rfl, i, x, rfl, hx, hb, ht⟩ | ⟨rfl, rfl, hal⟩
      · rcases k with ⟨rfl, j, y, rfl, hy, hb2, ht2⟩ | ⟨_, _, hal⟩
        · have h1 := first_badC hy hb2 ht
          have h2 := first_badC hx hb ht2
          exact ⟨rfl, by omega⟩
        · have := List.all_eq_true.1 hal x (List.mem_of_getElem? hx)
          rw [hb] at this; cases this
      · rcases k with ⟨_, j, y, _, hy, hb2, _⟩ | ⟨rfl, rfl, _⟩
        · have := List.all_eq_true.1 hal y (List.mem_of_getElem? hy)
          rw [hb2] at this; cases this
        · exact ⟨rfl, rfl⟩
theorem faultIs_ok {v : Int} {cs : List (List Int)} {c a : Int} (h : FaultIs v cs c a) (hc : ¬ 0 < c) : c = 0 ∧ a = -1 ∧ okF v cs = true := by
  rcases h with ⟨_, rfl, _⟩ | ⟨hn, ⟨rfl, _⟩ | ⟨rfl, rfl, hal⟩⟩
  · omega
  · omega
  · unfold Off at hn
    refine ⟨rfl, rfl, ?_⟩
    unfold okF
    rw [decide_eq_true (by omega : 0 ≤ v), decide_eq_true (by omega : v ≤ 150000), decide_eq_true (by omega : cs.length ≤ 500000), hal]; rfl
/-- the sentinels that a formula's or a proof's fault names -/
structure Sen (w : World) (ea : Nat → Addr) : Prop where
  c2 : w.cell? ⟨0, 0, none⟩ = some (.iface 143 (.pointer (some (ea 2))))
  c3 : w.cell? ⟨1, 0, none⟩ = some (.iface 143 (.pointer (some (ea 3))))
def erV (ea : Nat → Addr) (k : Nat) : Value := .iface 143 (.pointer (some (ea k)))
theorem Sen.below {w w' : World} {ea : Nat → Addr} (h : Sen w ea) (hb : Below w.heap.size w w') : Sen w' ea :=
  ⟨(hb.cell (World.block_lt_of_cell? _ _ h.c2)).trans h.c2, (hb.cell (World.block_lt_of_cell? _ _ h.c3)).trans h.c3⟩
/-- an error that is that fault -/
def EvC (w : World) (ea : Nat → Addr) (ev : Value) (c at_ : Int) : Prop :=
  (c = 0 ∧ ev = .nilIface) ∨ (c = 2 ∧ at_ = -1 ∧ ev = erV ea 2) ∨ (c = 8 ∧ at_ = -1 ∧ ev = erV ea 8) ∨
    ((c = 3 ∨ c = 8) ∧ ∃ pb, ev = .iface 61 (.pointer (some ⟨pb, 0, none⟩)) ∧ w.cell? ⟨pb, 0, none⟩ = some (.int .i64 at_) ∧ w.cell? ⟨pb, 1, none⟩ = some (erV ea c.toNat))
theorem EvC.below {w w' : World} {ea : Nat → Addr} {ev : Value} {c at_ : Int} (h : EvC w ea ev c at_) (hb : Below w.heap.size w w') : EvC w' ea ev c at_ := by
  rcases h with h | h | h | ⟨h1, pb, h2, h3, h4⟩
  · exact .inl h
  · exact .inr (.inl h)
  · exact .inr (.inr (.inl h))
  · exact .inr (.inr (.inr ⟨h1, pb, h2, (hb.cell (World.block_lt_of_cell? _ _ h3)).trans h3, (hb.cell (World.block_lt_of_cell? _ _ h4)).trans h4⟩))
theorem EvC.nil_iff {w : World} {ea : Nat → Addr} {ev : Value} {c at_ : Int} (h : EvC w ea ev c at_) : (c = 0 ∧ ev = .nilIface) ∨ (0 < c ∧ ∃ t a, ev = .iface t (.pointer (some a))) := by
  rcases h with h | ⟨h, _, e⟩ | ⟨h, _, e⟩ | ⟨h1, pb, h2, _⟩
  · exact .inl h
  · exact .inr ⟨by omega, _, _, e⟩
  · exact .inr ⟨by omega, _, _, e⟩
  · exact .inr ⟨by omega, _, _, h2⟩
/-- Check's answer -/
def CcP (w : World) (ea : Nat → Addr) (v : Int) (cs : List (List Int)) (e : Ending) (w' : World) : Prop := ∃ ev c at_, e = .returned ev ∧ Below w.heap.size w w' ∧ FaultIs v cs c at_ ∧ EvC w' ea ev c at_
set_option maxHeartbeats 1000000 in
theorem checkc_bad {w : World} {ea : Nat → Addr} {v : Int} {A : Option Addr} {n c : Nat} {cs : List (List Int)} (hn : cs.length = n) (hes : Sen w ea) (h : v < 0 ∨ 150000 < v ∨ 500000 < n) :
    Calls Tryd.prog 15 #[.agg #[.int .i64 v, .slice A n c]] w (CcP w ea v cs) := by
  obtain ⟨p, hp⟩ : ∃ p, ea 2 = p := ⟨_, rfl⟩
  have he : w.cell? ⟨0, 0, none⟩ = some (.iface 143 (.pointer (some p))) := by rw [← hp]; exact hes.c2
  have HP := Lib.hid hp
  have HO := Lib.hid (show Off v cs.length from by unfold Off; omega)
  clear hes hp
  have hlt := World.block_lt_of_cell? w _ he
  have he' : (w.alloc (.cells #[.int .i64 v, .slice A n c] 29)).cell? ⟨0, 0, none⟩ = some (.iface 143 (.pointer (some p))) := by rw [World.cell?_alloc_lt _ _ ⟨_, 0, none⟩ hlt]; exact he
  by_cases h1 : v < 0
  · have e1 : decide (v < 0) = true := decide_eq_true h1
    clear h h1 he
    go_enter Tryd.func15, Tryd.ntmps15
    go_wp2_with fail
    go_ret
    exact ⟨_, _, _, rfl, (Below.refl _ _).alloc (Nat.le_refl _) _, .inl ⟨HO.out, rfl, rfl⟩, .inr (.inl ⟨rfl, rfl, by unfold erV; rw [HP.out]; rfl⟩)⟩
  · have e1 : decide (v < 0) = false := decide_eq_false h1
    by_cases h2 : 150000 < v
    · have e2 : decide (150000 < v) = true := decide_eq_true h2
      clear h h1 h2 he
      go_enter Tryd.func15, Tryd.ntmps15
      go_wp2_with fail
      go_ret
      exact ⟨_, _, _, rfl, (Below.refl _ _).alloc (Nat.le_refl _) _, .inl ⟨HO.out, rfl, rfl⟩, .inr (.inl ⟨rfl, rfl, by unfold erV; rw [HP.out]; rfl⟩)⟩
    · have e2 : decide (150000 < v) = false := decide_eq_false h2
      have e3 : decide (500000 < (n : Int)) = true := decide_eq_true (by omega)
      clear h h1 h2 he
      go_enter Tryd.func15, Tryd.ntmps15
      go_wp2_with fail
      go_ret
      exact ⟨_, _, _, rfl, (Below.refl _ _).alloc (Nat.le_refl _) _, .inl ⟨HO.out, rfl, rfl⟩, .inr (.inl ⟨rfl, rfl, by unfold erV; rw [HP.out]; rfl⟩)⟩
set_option maxRecDepth 100000 in
set_option maxHeartbeats 2000000 in
theorem checkc_in {w : World} {B : Nat} {ea : Nat → Addr} {v : Int} {A : Option Addr} {n c : Nat} {cs : List (List Int)} (hn : cs.length = n) (hes : Sen w ea) (hv : 0 ≤ v ∧ v ≤ 150000) (hn5 : n ≤ 500000)
    (hls : ∀ x ∈ cs, x.length ≤ 1000000) (hr : ClsR w B A cs) (hB : B ≤ w.heap.size) : Calls Tryd.prog 15 #[.agg #[.int .i64 v, .slice A n c]] w (CcP w ea v cs) := by
  obtain ⟨p, hp⟩ : ∃ p, ea 3 = p := ⟨_, rfl⟩
  have he : w.cell? ⟨1, 0, none⟩ = some (.iface 143 (.pointer (some p))) := by rw [← hp]; exact hes.c3
  have HP := Lib.hid hp
  clear hes hp
  have HLS := Lib.hid hls
  have hlt := World.block_lt_of_cell? w _ he
  obtain ⟨W1, hW1⟩ : ∃ W1, W1 = w.alloc (.cells #[.int .i64 v, .slice A n c] 29) := ⟨_, rfl⟩
  have hb1 : Below w.heap.size w W1 := by rw [hW1]; exact (Below.refl _ _).alloc (Nat.le_refl _) _
  have k1 : Blk W1 w.heap.size 29 #[.int .i64 v, .slice A n c] := by rw [hW1]; exact Blk.new w _ _
  have e1 : decide (v < 0) = false := decide_eq_false (by omega)
  have e2 : decide (150000 < v) = false := decide_eq_false (by omega)
  have e3 : decide (500000 < (n : Int)) = false := decide_eq_false (by omega)
  have HF := Lib.hid (show ¬ Off v cs.length by unfold Off; omega)
  have HW1 := Lib.hid hW1
  have HB1 := Lib.hid hb1
  have HK1 := Lib.hid k1
  have HE := Lib.hid (And.intro he hlt)
  have HR := Lib.hid (hr.below (hb1.mono hB))
  have HV := Lib.hid hv
  have HBB := Lib.hid (Nat.le_trans hB hb1.size)
  clear hW1 hb1 k1 he hlt hr hv hls
  go_enter Tryd.func15, Tryd.ntmps15
  go_upto_region 1 with fail
  rw [← HW1.out]
  have c0 := HK1.out.cell 0
  have c1 := HK1.out.cell 1
  go_wp2_with fail
  clear c0 c1
  go_loopw [23] (fun iv wr => CkR W1 v cs iv wr) (fun iv _ => cs.length - (intOf iv).toNat)
  case atStart => exact ⟨0, Nat.zero_le _, rfl, by simp, Below.refl _ _⟩
  case round =>
    obtain ⟨k, hk, rfl, hal, hb⟩ := hrel
    rw [hn] at hk
    have HAL := Lib.hid hal
    have HB := Lib.hid (HB1.out.trans (hb.mono HB1.out.size))
    have HBW := Lib.hid hb
    have kr := HK1.out.below hb HK1.out.lt
    have HKR := Lib.hid kr
    clear hal hb kr
    by_cases hk2 : k < n
    · obtain ⟨x, hx⟩ : ∃ x, cs[k]? = some x := ⟨_, List.getElem?_eq_getElem (by omega)⟩
      obtain ⟨ad, hA, hadb, hc⟩ := (HR.out.below (HBW.out.mono HBB.out)) (by omega)
      subst hA
      obtain ⟨Ax, cx, hcell, hrx⟩ := hc k x hx
      obtain ⟨m, hm⟩ : ∃ m, x.length = m := ⟨_, rfl⟩
      rw [hm] at hcell hrx
      have C := Lib.hid (cright_any (c := cx) hm (by rw [← hm]; exact HLS.out x (List.mem_of_getElem? hx)) HV.out hrx (Nat.le_trans HBB.out HBW.out.size))
      have c0 := HKR.out.cell 0
      have HX := Lib.hid hx
      clear hc hrx hx hm
      go_wp2_with fail
      refine C.out.mono ?_
      rintro e w2 ⟨rfl, hb2⟩
      obtain ⟨bb, hbb⟩ : ∃ bb, okC v x = bb := ⟨_, rfl⟩
      rw [hbb]
      have HBB2 := Lib.hid hbb
      have HB2 := Lib.hid (HB.out.trans (hb2.mono HB.out.size))
      have HBW2 := Lib.hid (HBW.out.trans (hb2.mono HBW.out.size))
      have ce := (HB2.out.cell (p := ⟨1, 0, none⟩) HE.out.2).trans HE.out.1
      clear hbb hb2 c0 hcell
      cases bb with
      | true =>
        clear ce
        go_wp2_with fail
        go_roundw
        case rel =>
          refine ⟨k + 1, by omega, by go_num, ?_, HBW2.out⟩
          rw [Gm.take_one HX.out, List.all_append, HAL.out]
          simp [HBB2.out]
        case measure => simp [intOf]; omega
      | false =>
        go_wp2_with fail
        go_ret
        refine ⟨_, 3, (k : Int), rfl, HB2.out.alloc HB2.out.size _, .inr ⟨HF.out, .inl ⟨rfl, k, x, rfl, HX.out, HBB2.out, HAL.out⟩⟩, .inr (.inr (.inr ⟨.inl rfl, w2.heap.size, rfl, (Blk.new w2 _ _).cell 0, ?_⟩))⟩
        rw [(Blk.new w2 _ _).cell 1]; show _ = some (Value.iface 143 (.pointer (some (ea 3)))); rw [HP.out]; rfl
    · obtain rfl : n = k := by omega
      have hal := HAL.out
      rw [List.take_of_length_le (by omega)] at hal
      have HAL2 := Lib.hid hal
      clear hal
      go_wp2_with fail
      go_ret
      exact ⟨_, 0, -1, rfl, HB.out, .inr ⟨HF.out, .inr ⟨rfl, rfl, HAL2.out⟩⟩, .inl ⟨rfl, rfl⟩⟩
theorem checkc_any {w : World} {B : Nat} {ea : Nat → Addr} {v : Int} {A : Option Addr} {n c : Nat} {cs : List (List Int)} (hn : cs.length = n) (hes : Sen w ea) (hls : cs.length ≤ 500000 → ∀ x ∈ cs, x.length ≤ 1000000) (hr : ClsR w B A cs) (hB : B ≤ w.heap.size) : Calls Tryd.prog 15 #[.agg #[.int .i64 v, .slice A n c]] w (CcP w ea v cs) := by
  by_cases h : v < 0 ∨ 150000 < v ∨ 500000 < n
  · exact checkc_bad hn hes h
  · exact checkc_in hn hes (by omega) (by omega) (hls (by omega)) hr hB
def CrR (v : Int) (l : List Int) (iv : Value) : Prop := ∃ k : Nat, k ≤ l.length ∧ iv = .int .i64 (k : Nat) ∧ (l.take k).any (badN v) = false
set_option maxRecDepth 100000 in
set_option maxHeartbeats 2000000 in
theorem clauseRight_any {w : World} {B : Nat} {v : Int} {A : Option Addr} {n c : Nat} {l : List Int} (hn : l.length = n) (hl : n ≤ 1000000) (hv : 0 ≤ v ∧ v ≤ 150000) (hr : Reads w B 1 A n (litVals l)) :
    Calls Tryd.prog 21 #[.slice A n c, .int .i64 v] w fun e w' => e = .returned (.bool (okC v l)) ∧ w = w' := by
  have hw : IntKind.i64.wrap (-v) = -v := by rw [IntKind.wrap_i64]; omega
  have HR := Lib.hid hr
  have HN := Lib.hid hn
  clear hr hv
  go_enter Tryd.func21, Tryd.ntmps21
  go_wp2_with fail
  go_loop [5] (fun iv => CrR v l iv) (fun iv => l.length - (intOf iv).toNat)
  case atStart => exact ⟨0, Nat.zero_le _, rfl, by simp⟩
  case round =>
    obtain ⟨k, hk, rfl, hno⟩ := hrel
    rw [HN.out] at hk
    have HNO := Lib.hid hno
    clear hno
    by_cases hk2 : k < n
    · obtain ⟨x, hx⟩ : ∃ x, l[k]? = some x := ⟨_, List.getElem?_eq_getElem (by have := HN.out; omega)⟩
      obtain ⟨ad, hA, _, hc⟩ := HR.out.2 (by omega)
      subst hA
      have cx := hc k (.int .i64 x) (by unfold litVals; simp [hx])
      obtain ⟨b1, h1⟩ : ∃ b1, (x == 0) = b1 := ⟨_, rfl⟩
      obtain ⟨b2, h2⟩ : ∃ b2, decide (v < x) = b2 := ⟨_, rfl⟩
      obtain ⟨b3, h3⟩ : ∃ b3, decide (x < -v) = b3 := ⟨_, rfl⟩
      have HV := Lib.hid (show badN v x = (b1 || b2 || b3) by unfold badN; rw [h1, h2, h3])
      have HX := Lib.hid hx
      clear hc hx
      cases b1 with
      | true =>
        go_wp2_with fail
        go_ret
        refine ⟨?_, rfl⟩
        have hany : l.any (badN v) = true := List.any_eq_true.2 ⟨x, List.mem_of_getElem? HX.out, by rw [HV.out]; rfl⟩
        unfold okC; rw [hany]; rfl
      | false =>
      cases b2 with
      | true =>
        go_wp2_with fail
        go_ret
        refine ⟨?_, rfl⟩
        have hany : l.any (badN v) = true := List.any_eq_true.2 ⟨x, List.mem_of_getElem? HX.out, by rw [HV.out]; rfl⟩
        unfold okC; rw [hany]; rfl
      | false =>
      cases b3 with
      | true =>
        go_wp2_with fail
        go_ret
        refine ⟨?_, rfl⟩
        have hany : l.any (badN v) = true := List.any_eq_true.2 ⟨x, List.mem_of_getElem? HX.out, by rw [HV.out]; rfl⟩
        unfold okC; rw [hany]; rfl
      | false =>
        go_wp2_with fail
        go_round
        case rel =>
          refine ⟨k + 1, by have := HN.out; omega, by go_num, ?_⟩
          rw [Gm.take_one HX.out, List.any_append, HNO.out]
          simp [HV.out]
        case measure => have := HN.out; simp [intOf]; omega
    · obtain rfl : n = k := by omega
      have hal := HNO.out
      rw [List.take_of_length_le (by have := HN.out; omega)] at hal
      have HAL := Lib.hid (show okC v l = true by unfold okC; rw [hal]; rfl)
      clear hal
      go_wp2_with fail
      go_ret
      exact ⟨by rw [HAL.out]; rfl, rfl⟩
end Go.Proofs.YtaedbnbeelkkcaaDoor
