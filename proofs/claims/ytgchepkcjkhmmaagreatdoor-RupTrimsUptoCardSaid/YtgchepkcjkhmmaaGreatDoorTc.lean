/-
  WALKS: cnf.Check, which fault; faulted.
-/
import Derived.Test.YtgchepkcjkhmmaaGreatDoorCx
import Derived.Test.YtgchepkcjkhmmaaGreatDoorCe
namespace Go.Proofs.YtgchepkcjkhmmaaGreatDoor
open Go.RowKit
/-- an error that is that fault -/
def EvAt (w : World) (ea : Nat → Addr) (ev : Value) (c at_ : Int) : Prop :=
  (c = 0 ∧ ev = .nilIface) ∨ (c = 2 ∧ at_ = -1 ∧ ev = errV ea 2) ∨ (c = 3 ∧ ∃ pb, ev = .iface 64 (.pointer (some ⟨pb, 0, none⟩)) ∧ w.cell? ⟨pb, 0, none⟩ = some (.int .i64 at_) ∧ w.cell? ⟨pb, 1, none⟩ = some (errV ea 3))
theorem EvAt.below {w w' : World} {ea : Nat → Addr} {ev : Value} {c at_ : Int} (h : EvAt w ea ev c at_) (hb : Below w.heap.size w w') : EvAt w' ea ev c at_ := by
  rcases h with h | h | ⟨h1, pb, h2, h3, h4⟩
  · exact .inl h
  · exact .inr (.inl h)
  · exact .inr (.inr ⟨h1, pb, h2, (hb.cell (World.block_lt_of_cell? _ _ h3)).trans h3, (hb.cell (World.block_lt_of_cell? _ _ h4)).trans h4⟩)
theorem faulted_ev {w : World} {ea : Nat → Addr} {B : Nat} (he : Errs w ea B) (hB : B ≤ w.heap.size) {ev : Value} {c at_ : Int} (h : EvAt w ea ev c at_) :
    Calls Tryz.prog 7 #[ev, .agg #[.int .i64 c, .int .i64 at_]] w fun e w' => e = .returned (.bool true) ∧ Below w.heap.size w w' := by
  have hb : Below w.heap.size w (w.alloc (.cells #[.int .i64 c, .int .i64 at_] 37)) := (Below.refl _ _).alloc (Nat.le_refl _) _
  have he2 := he.below (hb.mono hB)
  have hB2 := Nat.le_trans hB hb.size
  rcases h with ⟨rfl, rfl⟩ | ⟨rfl, rfl, rfl⟩ | ⟨rfl, pb, rfl, h3, h4⟩
  · exact faulted_of (n := 0) (at_ := -1) ((code_nil _).mono fun e w' h => ⟨h.1, h.2 ▸ Below.refl _ _⟩) rfl (.inl rfl)
  · exact faulted_of (n := (2 : Nat)) (at_ := -1) (code_sent he2 hB2 (k := 2) (by omega) (by omega)) rfl (.inr rfl)
  · exact faulted_of (n := (3 : Nat)) (at_ := at_) (code_fault he2 hB2 (k := 3) (by omega) (by omega) ((hb.cell (World.block_lt_of_cell? _ _ h3)).trans h3) ((hb.cell (World.block_lt_of_cell? _ _ h4)).trans h4)) rfl (.inr rfl)
/-- Check's answer -/
def CxP (w : World) (ea : Nat → Addr) (v : Int) (cs : List (List Int)) (e : Ending) (w' : World) : Prop := ∃ ev c at_, e = .returned ev ∧ Below w.heap.size w w' ∧ FaultIs v cs c at_ ∧ EvAt w' ea ev c at_
set_option maxHeartbeats 1000000 in
theorem checkx_bad {w : World} {ea : Nat → Addr} {EB : Nat} {v : Int} {A : Option Addr} {n c : Nat} {cs : List (List Int)} (hn : cs.length = n) (hes : Errs w ea EB) (h : v < 0 ∨ 150000 < v ∨ 500000 < n) :
    Calls Tryz.prog 24 #[.agg #[.int .i64 v, .slice A n c]] w (CxP w ea v cs) := by
  obtain ⟨p, hp⟩ : ∃ p, ea 2 = p := ⟨_, rfl⟩
  have he : w.cell? ⟨0, 0, none⟩ = some (.iface 159 (.pointer (some p))) := by rw [← hp]; exact hes.var 2 (by omega) (by omega)
  have HP := Lib.hid hp
  have HO := Lib.hid (show Off v cs.length from by unfold Off; omega)
  clear hes hp
  have hlt := World.block_lt_of_cell? w _ he
  have he' : (w.alloc (.cells #[.int .i64 v, .slice A n c] 33)).cell? ⟨0, 0, none⟩ = some (.iface 159 (.pointer (some p))) := by rw [World.cell?_alloc_lt _ _ ⟨_, 0, none⟩ hlt]; exact he
  by_cases h1 : v < 0
  · have e1 : decide (v < 0) = true := decide_eq_true h1
    clear h h1 he
    go_enter Tryz.func24, Tryz.ntmps24
    go_wp2_with fail
    go_ret
    exact ⟨_, _, _, rfl, (Below.refl _ _).alloc (Nat.le_refl _) _, .inl ⟨HO.out, rfl, rfl⟩, .inr (.inl ⟨rfl, rfl, by unfold errV; rw [HP.out]; rfl⟩)⟩
  · have e1 : decide (v < 0) = false := decide_eq_false h1
    by_cases h2 : 150000 < v
    · have e2 : decide (150000 < v) = true := decide_eq_true h2
      clear h h1 h2 he
      go_enter Tryz.func24, Tryz.ntmps24
      go_wp2_with fail
      go_ret
      exact ⟨_, _, _, rfl, (Below.refl _ _).alloc (Nat.le_refl _) _, .inl ⟨HO.out, rfl, rfl⟩, .inr (.inl ⟨rfl, rfl, by unfold errV; rw [HP.out]; rfl⟩)⟩
    · have e2 : decide (150000 < v) = false := decide_eq_false h2
      have e3 : decide (500000 < (n : Int)) = true := decide_eq_true (by omega)
      clear h h1 h2 he
      go_enter Tryz.func24, Tryz.ntmps24
      go_wp2_with fail
      go_ret
      exact ⟨_, _, _, rfl, (Below.refl _ _).alloc (Nat.le_refl _) _, .inl ⟨HO.out, rfl, rfl⟩, .inr (.inl ⟨rfl, rfl, by unfold errV; rw [HP.out]; rfl⟩)⟩
set_option maxRecDepth 100000 in
set_option maxHeartbeats 2000000 in
theorem checkx_in {w : World} {B : Nat} {ea : Nat → Addr} {EB : Nat} {v : Int} {A : Option Addr} {n c : Nat} {cs : List (List Int)} (hn : cs.length = n) (hes : Errs w ea EB) (hv : 0 ≤ v ∧ v ≤ 150000) (hn5 : n ≤ 500000)
    (hls : ∀ x ∈ cs, x.length ≤ 1000000) (hr : ClsR w B A cs) (hB : B ≤ w.heap.size) : Calls Tryz.prog 24 #[.agg #[.int .i64 v, .slice A n c]] w (CxP w ea v cs) := by
  obtain ⟨p, hp⟩ : ∃ p, ea 3 = p := ⟨_, rfl⟩
  have he : w.cell? ⟨2, 0, none⟩ = some (.iface 159 (.pointer (some p))) := by rw [← hp]; exact hes.var 3 (by omega) (by omega)
  have HP := Lib.hid hp
  clear hes hp
  have HLS := Lib.hid hls
  have hlt := World.block_lt_of_cell? w _ he
  obtain ⟨W1, hW1⟩ : ∃ W1, W1 = w.alloc (.cells #[.int .i64 v, .slice A n c] 33) := ⟨_, rfl⟩
  have hb1 : Below w.heap.size w W1 := by rw [hW1]; exact (Below.refl _ _).alloc (Nat.le_refl _) _
  have k1 : Blk W1 w.heap.size 33 #[.int .i64 v, .slice A n c] := by rw [hW1]; exact Blk.new w _ _
  have e1 : decide (v < 0) = false := decide_eq_false (by omega)
  have e2 : decide (150000 < v) = false := decide_eq_false (by omega)
  have e3 : decide (500000 < (n : Int)) = false := decide_eq_false (by omega)
  have HF := Lib.hid (show ¬ Off v cs.length by unfold Off; omega)
  have HW1 := Lib.hid hW1
  have HB1 := Lib.hid hb1
  have HK1 := Lib.hid k1
  have HE := Lib.hid (And.intro he hlt)
  have HR := Lib.hid (hr.below (hb1.mono hB))
  have HV := Lib.hid hv
  have HBB := Lib.hid (Nat.le_trans hB hb1.size)
  clear hW1 hb1 k1 he hlt hr hv hls
  go_enter Tryz.func24, Tryz.ntmps24
  go_upto_region 1 with fail
  rw [← HW1.out]
  have c0 := HK1.out.cell 0
  have c1 := HK1.out.cell 1
  go_wp2_with fail
  clear c0 c1
  go_loopw [23] (fun iv wr => CkR W1 v cs iv wr) (fun iv _ => cs.length - (intOf iv).toNat)
  case atStart => exact ⟨0, Nat.zero_le _, rfl, by simp, Below.refl _ _⟩
  case round =>
    obtain ⟨k, hk, rfl, hal, hb⟩ := hrel
    rw [hn] at hk
    have HAL := Lib.hid hal
    have HB := Lib.hid (HB1.out.trans (hb.mono HB1.out.size))
    have HBW := Lib.hid hb
    have kr := HK1.out.below hb HK1.out.lt
    have HKR := Lib.hid kr
    clear hal hb kr
    by_cases hk2 : k < n
    · obtain ⟨x, hx⟩ : ∃ x, cs[k]? = some x := ⟨_, List.getElem?_eq_getElem (by omega)⟩
      obtain ⟨ad, hA, hadb, hc⟩ := (HR.out.below (HBW.out.mono HBB.out)) (by omega)
      subst hA
      obtain ⟨Ax, cx, hcell, hrx⟩ := hc k x hx
      obtain ⟨m, hm⟩ : ∃ m, x.length = m := ⟨_, rfl⟩
      rw [hm] at hcell hrx
      have C := Lib.hid (cright_any (c := cx) hm (by rw [← hm]; exact HLS.out x (List.mem_of_getElem? hx)) HV.out hrx (Nat.le_trans HBB.out HBW.out.size))
      have c0 := HKR.out.cell 0
      have HX := Lib.hid hx
      clear hc hrx hx hm
      go_wp2_with fail
      refine C.out.mono ?_
      rintro e w2 ⟨rfl, hb2⟩
      obtain ⟨bb, hbb⟩ : ∃ bb, okC v x = bb := ⟨_, rfl⟩
      rw [hbb]
      have HBB2 := Lib.hid hbb
      have HB2 := Lib.hid (HB.out.trans (hb2.mono HB.out.size))
      have HBW2 := Lib.hid (HBW.out.trans (hb2.mono HBW.out.size))
      have ce := (HB2.out.cell (p := ⟨2, 0, none⟩) HE.out.2).trans HE.out.1
      clear hbb hb2 c0 hcell
      cases bb with
      | true =>
        clear ce
        go_wp2_with fail
        go_roundw
        case rel =>
          refine ⟨k + 1, by omega, by go_num, ?_, HBW2.out⟩
          rw [Gm.take_one HX.out, List.all_append, HAL.out]
          simp [HBB2.out]
        case measure => simp [intOf]; omega
      | false =>
        go_wp2_with fail
        go_ret
        refine ⟨_, 3, (k : Int), rfl, HB2.out.alloc HB2.out.size _, .inr ⟨HF.out, .inl ⟨rfl, k, x, rfl, HX.out, HBB2.out, HAL.out⟩⟩, .inr (.inr ⟨rfl, w2.heap.size, rfl, (Blk.new w2 _ _).cell 0, ?_⟩)⟩
        rw [(Blk.new w2 _ _).cell 1]; unfold errV; rw [HP.out]; rfl
    · obtain rfl : n = k := by omega
      have hal := HAL.out
      rw [List.take_of_length_le (by omega)] at hal
      have HAL2 := Lib.hid hal
      clear hal
      go_wp2_with fail
      go_ret
      exact ⟨_, 0, -1, rfl, HB.out, .inr ⟨HF.out, .inr ⟨rfl, rfl, HAL2.out⟩⟩, .inl ⟨rfl, rfl⟩⟩
theorem checkx_any {w : World} {B : Nat} {ea : Nat → Addr} {EB : Nat} {v : Int} {A : Option Addr} {n c : Nat} {cs : List (List Int)} (hn : cs.length = n) (hes : Errs w ea EB) (hls : ∀ x ∈ cs, x.length ≤ 1000000) (hr : ClsR w B A cs) (hB : B ≤ w.heap.size) : Calls Tryz.prog 24 #[.agg #[.int .i64 v, .slice A n c]] w (CxP w ea v cs) := by
  by_cases h : v < 0 ∨ 150000 < v ∨ 500000 < n
  · exact checkx_bad hn hes h
  · exact checkx_in hn hes (by omega) (by omega) hls hr hB
end Go.Proofs.YtgchepkcjkhmmaaGreatDoor
