/-
  WALKS of plain.Code and coded: what number an error has.
-/
import Derived.Test.YtmbjhpgemphmmaaDoorEt
namespace Go.Proofs.YtmbjhpgemphmmaaDoor
open Go.RowKit

theorem code_nil (w : World) : Calls Tryd.prog 52 #[.nilIface] w fun e w' => e = .returned (.tuple #[.int .i64 0, .int .i64 (-1)]) ∧ w = w' := by
  go_enter Tryd.func52, Tryd.ntmps52
  go_wp2
  go_ret2
  exact ⟨rfl, rfl⟩
theorem is_sent {w : World} {ea : Nat → Addr} {B : Nat} (h : Errs w ea B) {j k : Nat} (hj : 1 ≤ j) (hj9 : j ≤ 9) (hk : 1 ≤ k) (hk9 : k ≤ 9) :
    Calls Tryd.prog 90 #[errV ea j, errV ea k] w fun e w' => e = .returned (.bool (decide (j = k))) ∧ w = w' := by
  unfold errV
  rw [if_neg (by omega), if_neg (by omega)]
  by_cases hjk : j = k
  · subst hjk
    rw [decide_eq_true rfl]
    exact is_same _ w
  · rw [decide_eq_false hjk]
    obtain ⟨_, c, t, hc⟩ := h.held j hj hj9
    obtain ⟨_, c', t', hc'⟩ := h.held k hk hk9
    exact is_other _ _ c c' t t' w (h.apart j k hj hj9 hk hk9 hjk) hc hc'
def CPost (w : World) (n at_ : Int) (e : Ending) (w' : World) : Prop := e = .returned (.tuple #[.int .i64 n, .int .i64 at_]) ∧ Below w.heap.size w w'
set_option maxHeartbeats 800000 in
theorem code_sent {w : World} {ea : Nat → Addr} {B : Nat} (h : Errs w ea B) (hB : B ≤ w.heap.size) {k : Nat} (hk : 1 ≤ k) (hk9 : k ≤ 9) :
    Calls Tryd.prog 52 #[errV ea k] w (CPost w k (-1)) := by
  have he : errV ea k = .iface 220 (.pointer (some (ea k))) := by unfold errV; rw [if_neg (by omega)]
  rw [he]
  have H := Lib.hid h
  have HE := Lib.hid he
  have HB := Lib.hid hB
  have A1 := Lib.hid (as_miss (ea k) ⟨w.heap.size, 0, none⟩ (w.alloc (.cells #[.pointer none] 157)) (by rw [World.cell?_alloc_lt _ _ ⟨_, 0, none⟩ (Nat.lt_of_lt_of_le h.etlow hB)]; exact h.et))
  clear h he hB
  go_enter Tryd.func52, Tryd.ntmps52
  go_wp2_with fail
  refine A1.out.mono ?_
  rintro e w1 ⟨rfl, hb1⟩
  have hbw : Below w.heap.size w w1 := ((Below.refl _ w).alloc (Nat.le_refl _) _).trans (hb1.mono (by simp))
  have h1 : Errs w1 ea B := H.out.below (hbw.mono HB.out)
  have g1 : w1.cell? ⟨5, 0, none⟩ = some (.iface 220 (.pointer (some (ea 1)))) := h1.var 1 (by decide) (by decide)
  have g2 : w1.cell? ⟨2, 0, none⟩ = some (.iface 220 (.pointer (some (ea 2)))) := h1.var 2 (by decide) (by decide)
  have g3 : w1.cell? ⟨0, 0, none⟩ = some (.iface 220 (.pointer (some (ea 3)))) := h1.var 3 (by decide) (by decide)
  have g4 : w1.cell? ⟨6, 0, none⟩ = some (.iface 220 (.pointer (some (ea 4)))) := h1.var 4 (by decide) (by decide)
  have g5 : w1.cell? ⟨1, 0, none⟩ = some (.iface 220 (.pointer (some (ea 5)))) := h1.var 5 (by decide) (by decide)
  have g6 : w1.cell? ⟨7, 0, none⟩ = some (.iface 220 (.pointer (some (ea 6)))) := h1.var 6 (by decide) (by decide)
  have g7 : w1.cell? ⟨8, 0, none⟩ = some (.iface 220 (.pointer (some (ea 7)))) := h1.var 7 (by decide) (by decide)
  have g8 : w1.cell? ⟨9, 0, none⟩ = some (.iface 220 (.pointer (some (ea 8)))) := h1.var 8 (by decide) (by decide)
  have g9 : w1.cell? ⟨3, 0, none⟩ = some (.iface 220 (.pointer (some (ea 9)))) := h1.var 9 (by decide) (by decide)
  have HH := Lib.hid h1
  have HBW := Lib.hid hbw
  clear hb1 h1 hbw
  go_wp2_with fail
  obtain ⟨w2, hw2⟩ : ∃ w2, w2 = w1.alloc (.cells #[.iface 220 (.pointer (some (ea 1))), .iface 220 (.pointer (some (ea 2))), .iface 220 (.pointer (some (ea 3))), .iface 220 (.pointer (some (ea 4))), .iface 220 (.pointer (some (ea 5))), .iface 220 (.pointer (some (ea 6))), .iface 220 (.pointer (some (ea 7))), .iface 220 (.pointer (some (ea 8))), .iface 220 (.pointer (some (ea 9)))] 31) := ⟨_, rfl⟩
  rw [← hw2]
  have hcell : ∀ j : Nat, j < 9 → w2.cell? ⟨w1.heap.size, j, none⟩ = some (.iface 220 (.pointer (some (ea (j + 1))))) := fun j hj => by
    rw [hw2, (Blk.new w1 _ _).cell j]
    match j, hj with
    | 0, _ => rfl
    | 1, _ => rfl
    | 2, _ => rfl
    | 3, _ => rfl
    | 4, _ => rfl
    | 5, _ => rfl
    | 6, _ => rfl
    | 7, _ => rfl
    | 8, _ => rfl
  have hb2 : Below w.heap.size w w2 := by rw [hw2]; exact HBW.out.alloc HBW.out.size _
  have HC := Lib.hid hcell
  have HB2 := Lib.hid hb2
  have HER := Lib.hid (H.out.below (hb2.mono HB.out))
  clear hcell hb2 hw2 g1 g2 g3 g4 g5 g6 g7 g8 g9
  go_loop [3, 27] (fun t i => ∃ j : Nat, j < k ∧ t = .int .i64 (-1) ∧ i = .int .i64 j) (fun _ i => 9 - (intOf i).toNat)
  case atStart => exact ⟨0, by omega, rfl, rfl⟩
  case round =>
    obtain ⟨j, hj, rfl, rfl⟩ := hrel
    have hj9 : j < 9 := by omega
    have hc := HC.out j hj9
    have his := is_sent HER.out hk hk9 (show 1 ≤ j + 1 by omega) (show j + 1 ≤ 9 by omega)
    unfold errV at his
    rw [if_neg (by omega), if_neg (by omega)] at his
    by_cases hjk : k = j + 1
    · rw [decide_eq_true hjk] at his
      have HIS := Lib.hid his
      have HJK := Lib.hid hjk
      clear his hjk
      go_wp2_with fail
      refine HIS.out.mono ?_
      rintro e w' ⟨rfl, rfl⟩
      go_wp2
      go_ret2
      exact ⟨by rw [HJK.out]; simp, HB2.out⟩
    · rw [decide_eq_false hjk] at his
      have HIS := Lib.hid his
      clear his
      go_wp2_with fail
      refine HIS.out.mono ?_
      rintro e w' ⟨rfl, rfl⟩
      go_wp2
      go_round
      case rel => exact ⟨j + 1, by omega, rfl, by go_num⟩
      case measure => simp [intOf]; omega

theorem coded_nil (w : World) (c : Int) (hc : (0 : Int) = c) : Calls Tryd.prog 21 #[.nilIface, .int .i64 c] w fun e w' => e = .returned (.bool true) ∧ w = w' := by
  subst hc
  go_enter Tryd.func21, Tryd.ntmps21
  go_wp2_with (go_at_call 52; refine (code_nil _).mono ?_; rintro e w' ⟨rfl, rfl⟩)
  go_ret
  exact ⟨rfl, rfl⟩
theorem coded_sent {w : World} {ea : Nat → Addr} {B : Nat} (h : Errs w ea B) (hB : B ≤ w.heap.size) {k : Nat} (hk : 1 ≤ k) (hk9 : k ≤ 9) :
    Calls Tryd.prog 21 #[errV ea k, .int .i64 k] w fun e w' => e = .returned (.bool true) ∧ Below w.heap.size w w' := by
  have C := Lib.hid (code_sent h hB hk hk9)
  clear h hB
  go_enter Tryd.func21, Tryd.ntmps21
  go_wp2_with fail
  refine C.out.mono ?_
  rintro e w1 ⟨rfl, hb⟩
  have HB := Lib.hid hb
  clear hb
  go_wp2
  go_ret
  exact ⟨by simp, HB.out⟩
end Go.Proofs.YtmbjhpgemphmmaaDoor
