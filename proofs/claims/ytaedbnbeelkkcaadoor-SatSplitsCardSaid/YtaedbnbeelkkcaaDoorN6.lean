/-
  Counting of a formula that is not right; counting is split.
-/
import Derived.Test.YtaedbnbeelkkcaaDoorN4
import Derived.Test.YtaedbnbeelkkcaaDoorN3
namespace Go.Proofs.YtaedbnbeelkkcaaDoor.slv
open Go.RowKit
/-- counting tells of a formula's fault -/
def CbP (w : World) (ea : Nat → Addr) (v : Int) (F : List (List Int)) (e : Ending) (w' : World) : Prop :=
  ∃ t a cd pl, e = .returned (.tuple #[.int .i64 0, .iface t (.pointer (some a))]) ∧ Below w.heap.size w w' ∧ 0 < cd ∧ FaultIs v F cd pl ∧ EvC w' ea (.iface t (.pointer (some a))) cd pl
def RightF (v : Int) (F : List (List Int)) : Prop := ¬ Off v F.length ∧ F.all (okC v) = true
set_option maxRecDepth 100000 in
set_option maxHeartbeats 4000000 in
theorem count_bad {w : World} {ea : Nat → Addr} {n c B : Nat} {v most : Int} {A : Option Addr} {F : List (List Int)} (hes : Sen w ea) (hF : F.length = n) (hr : ClsR w B A F) (hB : B ≤ w.heap.size) (hls : F.length ≤ 500000 → ∀ d ∈ F, d.length ≤ 1000000) (hbad : ¬ RightF v F) :
    Calls Tryd.prog 8 #[.agg #[.int .i64 v, .slice A n c], .int .i64 most] w (CbP w ea v F) := by
  obtain ⟨W1, hW1⟩ : ∃ W1, W1 = w.alloc (.cells #[.int .i64 v, .slice A n c] 29) := ⟨_, rfl⟩
  have hb1 : Below w.heap.size w W1 := by rw [hW1]; exact (Below.refl _ _).alloc (Nat.le_refl _) _
  have k1 : Blk W1 w.heap.size 29 #[.int .i64 v, .slice A n c] := by rw [hW1]; exact Blk.new w _ _
  have CC := Lib.hid (checkc_any (B := B) (v := v) (c := c) hF (hes.below hb1) hls (hr.below (hb1.mono hB)) (Nat.le_trans hB hb1.size))
  have c0 := k1.cell 0
  have c1 := k1.cell 1
  have HW1 := Lib.hid hW1
  have HB1 := Lib.hid hb1
  have HBAD := Lib.hid hbad
  clear hW1 hb1 k1 hr hes hls hbad hF
  go_enter Tryd.func8, Tryd.ntmps8
  go_upto_region 1 with fail
  rw [← HW1.out]
  go_wp2_with fail
  refine CC.out.mono ?_
  rintro e w2 ⟨ev, cd, pl, rfl, hb2, hfi, hev⟩
  rcases hev.nil_iff with ⟨h0, _⟩ | ⟨h0, t, a, rfl⟩
  · exfalso
    rcases hfi with ⟨_, h1, _⟩ | ⟨h1, ⟨h2, _⟩ | ⟨_, _, h2⟩⟩
    · omega
    · omega
    · exact HBAD.out ⟨h1, h2⟩
  · have HE := Lib.hid (show CbP w ea v F (.returned (.tuple #[.int .i64 0, .iface t (.pointer (some a))])) w2 from ⟨t, a, cd, pl, rfl, HB1.out.trans (hb2.mono HB1.out.size), h0, hfi, hev⟩)
    clear hb2 hfi hev h0 c0 c1
    go_wp2_with fail
    exact bodyPost_ret (v := .tuple #[.int .i64 0, .iface t (.pointer (some a))]) (by simp [results, Tryd.results8, go_sem]) rfl HE.out
/-! ### plain -/
theorem cnt_split {V v : Nat} {F : List (List Int)} (h1 : 1 ≤ v) : cntM V (F ++ [[(v : Int)]]) + cntM V (F ++ [[-(v : Int)]]) = cntM V F := by
  unfold cntM
  have key : ∀ k, (satB (F ++ [[(v : Int)]]) k = (satB F k && k.testBit (v - 1))) ∧ (satB (F ++ [[-(v : Int)]]) k = (satB F k && !(k.testBit (v - 1)))) := fun k => by
    constructor
    · unfold satB
      rw [List.all_append]
      congr 1
      have e : lv (asg k) (v : Int) = if k.testBit (v - 1) then 1 else -1 := by
        unfold lv
        rw [if_neg (by omega)]
        rfl
      cases hb : k.testBit (v - 1) <;> simp [e, hb]
    · unfold satB
      rw [List.all_append]
      congr 1
      have e : lv (asg k) (-(v : Int)) = if k.testBit (v - 1) then -1 else 1 := by
        unfold lv
        rw [if_pos (by omega), Int.natAbs_neg]
        show -(asg k v) = _
        unfold asg
        split <;> rfl
      cases hb : k.testBit (v - 1) <;> simp [e, hb]
  have gen : ∀ l : List Nat, l.countP (satB (F ++ [[(v : Int)]])) + l.countP (satB (F ++ [[-(v : Int)]])) = l.countP (satB F) := by
    intro l
    induction l with
    | nil => rfl
    | cons k r ih =>
      rw [List.countP_cons, List.countP_cons, List.countP_cons, (key k).1, (key k).2]
      cases satB F k <;> cases k.testBit (v - 1) <;> simp <;> omega
  exact gen _
theorem cnt_more {V : Nat} {F : List (List Int)} {c : List Int} : cntM V (F ++ [c]) ≤ cntM V F := by
  unfold cntM
  refine List.countP_mono_left fun k _ h => ?_
  unfold satB at h ⊢
  rw [List.all_append, Bool.and_eq_true] at h
  exact h.1
theorem cnt_le_two {V : Nat} (hV : V ≤ 9) (F : List (List Int)) : cntM V F ≤ 512 := by
  unfold cntM
  refine Nat.le_trans List.countP_le_length ?_
  rw [List.length_range]
  exact Nat.le_trans (Nat.pow_le_pow_right (n := 2) (by omega) hV) (by decide)
end Go.Proofs.YtaedbnbeelkkcaaDoor.slv
