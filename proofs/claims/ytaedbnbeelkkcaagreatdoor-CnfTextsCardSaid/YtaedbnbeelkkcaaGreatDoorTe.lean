/-
  THE WALK of the law CnfTexts.
-/
import Derived.Test.YtaedbnbeelkkcaaGreatDoorRb
import Derived.Test.YtaedbnbeelkkcaaGreatDoorTa
import Derived.Test.YtaedbnbeelkkcaaGreatDoorTc
import Derived.Test.YtaedbnbeelkkcaaGreatDoorTd
import Derived.Test.YtaedbnbeelkkcaaGreatDoorTs
namespace Go.Proofs.YtaedbnbeelkkcaaGreatDoor
open Go.RowKit
/-! ### the text without its last byte -/
theorem tail_end : ∀ (c : List Int) (r : List (List Int)), ∃ P, Lib.joinTail [10] ((c :: r).map Rd.txC) = P ++ [48]
  | c, [] => ⟨[10] ++ c.flatMap (fun n => Lib.itoa n ++ [32]), by simp [Lib.joinTail, Rd.txC]⟩
  | c, d :: r => by
    obtain ⟨P, hP⟩ := tail_end d r
    refine ⟨[10] ++ Rd.txC c ++ P, ?_⟩
    have e : Lib.joinTail [10] ((c :: d :: r).map Rd.txC) = [10] ++ Rd.txC c ++ Lib.joinTail [10] ((d :: r).map Rd.txC) := by simp [Lib.joinTail]
    rw [e, hP]; simp only [List.append_assoc]
theorem body_end (v : Int) (cs : List (List Int)) : ∃ P, Lib.join (hdL v cs.length :: cs.map Rd.txC) [10] = P ++ [48] := by
  rw [Lib.join_cons]
  cases cs with
  | nil =>
    refine ⟨[112, 32, 99, 110, 102, 32] ++ Lib.itoa v ++ [32], ?_⟩
    show hdL v 0 ++ [] = _
    unfold hdL
    rw [show Lib.itoa ((0 : Nat) : Int) = [48] from Rd.itoa_0]; simp
  | cons c r =>
    obtain ⟨P, hP⟩ := tail_end c r
    exact ⟨hdL v (c :: r).length ++ P, by rw [hP, List.append_assoc]⟩
theorem txF_body (v : Int) (cs : List (List Int)) : Rd.txF v cs = Lib.join (hdL v cs.length :: cs.map Rd.txC) [10] ++ [10] := (Rd.lines_join v cs (by unfold hdL; rfl)).symm
theorem trim_full (v : Int) (cs : List (List Int)) : Lib.trimSuffix (Rd.txF v cs) [10] = Lib.join (hdL v cs.length :: cs.map Rd.txC) [10] := by
  rw [txF_body]
  unfold Lib.trimSuffix Lib.hasSuffix
  rw [if_pos (List.isSuffixOf_iff_suffix.2 ⟨_, rfl⟩)]
  simp
theorem trim_cut (v : Int) (cs : List (List Int)) : Lib.trimSuffix (Lib.join (hdL v cs.length :: cs.map Rd.txC) [10]) [10] = Lib.join (hdL v cs.length :: cs.map Rd.txC) [10] := by
  obtain ⟨P, hP⟩ := body_end v cs
  unfold Lib.trimSuffix
  split
  · rename_i h
    unfold Lib.hasSuffix at h
    obtain ⟨t, ht⟩ := List.isSuffixOf_iff_suffix.1 h
    rw [hP] at ht
    have := List.append_inj_right' ht rfl
    simp at this
  · rfl
/-! ### Text of any formula -/
def TxP (w : World) (ea : Nat → Addr) (v : Int) (cs : List (List Int)) (e : Ending) (w' : World) : Prop :=
  ∃ c at_ sv ev, e = .returned (.tuple #[.string sv, ev]) ∧ Below w.heap.size w w' ∧ FaultIs v cs c at_ ∧ EvAt w' ea ev c at_ ∧ ((c = 0 ∧ sv = ⟨(Rd.txF v cs).toArray⟩) ∨ (0 < c ∧ sv = ⟨#[]⟩))
theorem errs_bound {w : World} {ea : Nat → Addr} {B : Nat} (h : Errs w ea B) : w.cell? ⟨0, 0, none⟩ = some (.iface 152 (.pointer (some (ea 2)))) := h.var 2 (by omega) (by omega)
theorem errs_shape {w : World} {ea : Nat → Addr} {B : Nat} (h : Errs w ea B) : w.cell? ⟨1, 0, none⟩ = some (.iface 152 (.pointer (some (ea 3)))) := h.var 3 (by omega) (by omega)
set_option maxRecDepth 100000 in
set_option maxHeartbeats 1000000 in
theorem textx_any {w : World} {B : Nat} {ea : Nat → Addr} {EB : Nat} {v : Int} {A : Option Addr} {n c : Nat} {cs : List (List Int)} (hn : cs.length = n) (hes : Errs w ea EB) (hE : EB ≤ w.heap.size) (ht : Tens w) (hls : cs.length ≤ 500000 → ∀ x ∈ cs, x.length ≤ 1000000) (hr : ClsR w B A cs) (hB : B ≤ w.heap.size) (htx : okF v cs = true → (Rd.txF v cs).length ≤ 1000000000) :
    Calls Tryz.prog 6 #[.agg #[.int .i64 v, .slice A n c]] w (TxP w ea v cs) := by
  cases hok : okF v cs with
  | true =>
    refine (text_any (c := c) hn (errs_shape hes) (errs_bound hes) ht (hls (okF_len hok)) hr hB hok (htx hok)).mono ?_
    rintro e w' ⟨rfl, hb⟩
    have hk := hok
    unfold okF at hk
    simp only [Bool.and_eq_true, decide_eq_true_eq] at hk
    exact ⟨0, -1, _, _, rfl, hb, .inr ⟨by unfold Off; omega, .inr ⟨rfl, rfl, hk.2⟩⟩, .inl ⟨rfl, rfl⟩, .inl ⟨rfl, rfl⟩⟩
  | false =>
    obtain ⟨W1, hW1⟩ : ∃ W1, W1 = w.alloc (.cells #[.int .i64 v, .slice A n c] 31) := ⟨_, rfl⟩
    have hb1 : Below w.heap.size w W1 := by rw [hW1]; exact (Below.refl _ _).alloc (Nat.le_refl _) _
    have k1 : Blk W1 w.heap.size 31 #[.int .i64 v, .slice A n c] := by rw [hW1]; exact Blk.new w _ _
    have CK := Lib.hid (checkx_any (v := v) (c := c) hn (hes.below (hb1.mono hE)) hls (hr.below (hb1.mono hB)) (Nat.le_trans hB hb1.size))
    have HW1 := Lib.hid hW1
    have HB1 := Lib.hid hb1
    have HOK := Lib.hid hok
    have c0 := k1.cell 0
    have c1 := k1.cell 1
    clear hW1 hb1 k1 hes hE ht hls hr hB htx hn hok
    go_enter Tryz.func6, Tryz.ntmps6
    go_upto_region 1 with fail
    rw [← HW1.out]
    go_wp2_with fail
    refine CK.out.mono ?_
    rintro e w2 ⟨ev, c, at_, rfl, hb2, hf, hev⟩
    have HB2 := Lib.hid (HB1.out.trans (hb2.mono HB1.out.size))
    have HF := Lib.hid hf
    have hc : 0 < c := by
      by_cases hc : 0 < c
      · exact hc
      · have := (faultIs_ok hf hc).2.2
        rw [HOK.out] at this; cases this
    have HEV := Lib.hid (And.intro hev hc)
    clear hb2 hf c0 c1 hc
    rcases hev with ⟨h, _⟩ | ⟨_, _, h⟩ | ⟨_, pb, h, _⟩
    · exact absurd HEV.out.2 (by omega)
    · obtain ⟨p, hp⟩ : ∃ p, ev = .iface 152 (.pointer (some p)) := ⟨ea 2, by rw [h]; rfl⟩
      clear h
      subst hp
      go_wp2_with fail
      go_ret2
      exact ⟨c, at_, _, _, rfl, HB2.out, HF.out, HEV.out.1, .inr ⟨HEV.out.2, rfl⟩⟩
    · subst h
      go_wp2_with fail
      go_ret2
      exact ⟨c, at_, _, _, rfl, HB2.out, HF.out, HEV.out.1, .inr ⟨HEV.out.2, rfl⟩⟩
def LPost2 (w : World) (e : Ending) (w' : World) : Prop := e = .returned (.bool true) ∧ Below w.heap.size w w'
theorem texted_any {w : World} {ea : Nat → Addr} {EB : Nat} (hes : Errs w ea EB) (ht : Tens w) : Calls Tryz.prog 4 #[] w (LPost2 w) := by
  have C := text_any (w := w) (v := 2) (A := none) (n := 0) (c := 0) (cs := []) (B := 0) rfl (errs_shape hes) (errs_bound hes) ht (by simp) (fun h => absurd h (by simp)) (Nat.zero_le _) (by decide) (by decide +kernel)
  have e : Rd.txF 2 [] = [112, 32, 99, 110, 102, 32, 50, 32, 48, 10] := by decide +kernel
  rw [e] at C
  have C := Lib.hid C
  clear hes ht e
  go_enter Tryz.func4, Tryz.ntmps4
  go_wp2_with fail
  refine C.out.mono ?_
  rintro e w1 ⟨rfl, hb⟩
  have HB := Lib.hid hb
  clear hb
  go_wp2
  go_ret
  exact ⟨rfl, HB.out⟩
end Go.Proofs.YtaedbnbeelkkcaaGreatDoor
