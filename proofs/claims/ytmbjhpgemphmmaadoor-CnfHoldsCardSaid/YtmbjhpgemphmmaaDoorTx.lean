/-
  WALKS: cnf.Check, cnf.Text of a formula without clauses; texted.
-/
import Derived.Test.YtmbjhpgemphmmaaDoorTb
import Derived.Test.YtmbjhpgemphmmaaDoorHs
import Derived.Test.YtmbjhpgemphmmaaDoorSh
namespace Go.Proofs.YtmbjhpgemphmmaaDoor
open Go.RowKit
set_option maxRecDepth 100000 in
set_option maxHeartbeats 1000000 in
theorem check_two (w : World) : Calls Tryd.prog 66 #[.agg #[.int .i64 2, .slice none 0 0]] w fun e w' => e = .returned .nilIface ∧ w' = w.alloc (.cells #[.int .i64 2, .slice none 0 0] 36) := by
  go_enter Tryd.func66, Tryd.ntmps66
  go_wp2_with fail
  go_loop [23] (fun iv => iv = .int .i64 0) (fun _ => 0)
  case atStart => rfl
  case round =>
    subst hrel
    go_wp2
    go_ret
    exact ⟨rfl, rfl⟩
theorem itoa_two (w : World) : Calls Tryd.prog 68 #[.int .i64 2] w fun e w' => e = .returned (.string ⟨#[50]⟩) ∧ w' = w := by
  have h := Tryd.strconv_Itoa_small 2 (by omega) w
  have e : Lib.decDigits 2 = [50] := by decide +kernel
  rw [e] at h
  exact h
theorem itoa_zero (w : World) : Calls Tryd.prog 68 #[.int .i64 0] w fun e w' => e = .returned (.string ⟨#[48]⟩) ∧ w' = w := by
  have h := Tryd.strconv_Itoa_small 0 (by omega) w
  have e : Lib.decDigits 0 = [48] := by decide +kernel
  rw [e] at h
  exact h
attribute [local irreducible] wpSeq
set_option maxRecDepth 100000 in
set_option maxHeartbeats 2000000 in
theorem text_two (w : World) : Calls Tryd.prog 32 #[.agg #[.int .i64 2, .slice none 0 0]] w fun e w' => e = .returned (.tuple #[.string ⟨#[112, 32, 99, 110, 102, 32, 50, 32, 48, 10]⟩, .nilIface]) ∧ Below w.heap.size w w' := by
  obtain ⟨W1, hW1⟩ : ∃ W1, W1 = w.alloc (.cells #[.int .i64 2, .slice none 0 0] 36) := ⟨_, rfl⟩
  have b1 : Blk W1 w.heap.size 36 #[.int .i64 2, .slice none 0 0] := by rw [hW1]; exact Blk.new w _ _
  have hb1 : Below w.heap.size w W1 := by rw [hW1]; exact (Below.refl _ _).alloc (Nat.le_refl _) _
  have HW1 := Lib.hid hW1
  have HB1 := Lib.hid hb1
  have HBK1 := Lib.hid b1
  clear hW1 b1 hb1
  go_enter Tryd.func32, Tryd.ntmps32
  go_wp2_with fail
  refine (check_two _).mono ?_
  rintro e w2 ⟨rfl, hw2⟩
  rw [← HW1.out] at hw2
  have hb2 : Below w.heap.size w w2 := by rw [hw2]; exact HB1.out.alloc HB1.out.size _
  have b2 : Blk w2 w.heap.size 36 #[.int .i64 2, .slice none 0 0] := by rw [hw2]; exact HBK1.out.alloc _
  obtain ⟨W3, hW3⟩ : ∃ W3, W3 = (w2.alloc (.cells #[.pointer none, .slice none 0 0] 131)).drew := ⟨_, rfl⟩
  have b3 : Blk W3 w.heap.size 36 #[.int .i64 2, .slice none 0 0] := by rw [hW3]; exact (b2.alloc _).drew
  have hb3 : Below w.heap.size w W3 := by rw [hW3]; exact below_drewN (hb2.alloc hb2.size _) 1
  have hbu : Lib.IsBuilder 131 5 w2.heap.size w2.heap.size [] W3 := by
    rw [hW3]
    rcases Lib.fresh_isBuilder 131 5 w2 with h | h
    · exact .inl h.drew
    · exact .inr h.drew
  have C := Lib.hid (writeString_any w2.heap.size w2.heap.size [] ⟨#[112, 32, 99, 110, 102, 32, 50, 32, 48, 10]⟩ W3 hbu (by decide) (by rw [hW3]; simp))
  have HW3 := Lib.hid hW3
  have HB3 := Lib.hid hb3
  have HQ := Lib.hid (And.intro (b3.cell 0) (b3.cell 1))
  have HBK3 := Lib.hid b3
  have HS2 := Lib.hid hb2.size
  have HBX := Lib.hid b2.lt
  clear hw2 hb2 b2 hW3 b3 hb3 hbu
  go_wp2_with fail
  refine wp_region_seq (S := fun w' => w'.cell? ⟨w.heap.size, 0, none⟩ = some (.int .i64 2) ∧ w'.cell? ⟨w.heap.size, 1, none⟩ = some (.slice none 0 0)) [(0, false), (1, false), (5, false), (6, false), (7, false), (2, true), (3, false), (4, false), (8, true), (9, false), (10, false), (11, true)] (by kernel_rfl) (by kernel_rfl) (by kernel_rfl) (by rw [← HW3.out]; exact HQ.out) ?_
  rw [← HW3.out]
  iterate 5 (refine seq_take _ _ rfl (by kernel_rfl) (fun wv hv => by obtain ⟨hv1, hv2⟩ := hv; go_simp; try with_reducible rfl) ?_; simp only [Act.put, List.getElem_toArray, List.getElem_cons_zero, List.getElem_cons_succ, List.setIfInBounds_toArray, List.set_cons_zero, List.set_cons_succ])
  refine seq_act _ rfl (fun K hK => ?_)
  go_simp
  refine (itoa_two _).mono ?_
  rintro e w4 ⟨rfl, rfl⟩
  go_simp
  refine hK _ _ (HQ.out) ?_
  clear hK K
  iterate 2 (refine seq_take _ _ rfl (by kernel_rfl) (fun wv hv => by obtain ⟨hv1, hv2⟩ := hv; go_simp; try with_reducible rfl) ?_; simp only [Act.put, List.getElem_toArray, List.getElem_cons_zero, List.getElem_cons_succ, List.setIfInBounds_toArray, List.set_cons_zero, List.set_cons_succ])
  refine seq_act _ rfl (fun K hK => ?_)
  go_simp
  refine (itoa_zero _).mono ?_
  rintro e w5 ⟨rfl, rfl⟩
  go_simp
  refine hK _ _ (HQ.out) ?_
  clear hK K
  iterate 2 (refine seq_take _ _ rfl (by kernel_rfl) (fun wv hv => by obtain ⟨hv1, hv2⟩ := hv; go_simp; try with_reducible rfl) ?_; simp only [Act.put, List.getElem_toArray, List.getElem_cons_zero, List.getElem_cons_succ, List.setIfInBounds_toArray, List.set_cons_zero, List.set_cons_succ])
  have hs : ((⟨#[112, 32, 99, 110, 102, 32]⟩ : ByteArray) ++ ⟨#[50]⟩ ++ ⟨#[32]⟩ ++ ⟨#[48]⟩ ++ ⟨#[10]⟩) = ⟨#[112, 32, 99, 110, 102, 32, 50, 32, 48, 10]⟩ := by decide +kernel
  rw [hs]
  clear hs
  refine seq_act _ rfl (fun K hK => ?_)
  go_simp
  refine C.out.mono ?_
  rintro e w6 ⟨rfl, h1, h2⟩
  have b6 : Blk w6 w.heap.size 36 #[.int .i64 2, .slice none 0 0] := HBK3.out.below h2 (by have := HS2.out; have := HBK1.out.lt; have := HBX.out; omega)
  have HQ6 := Lib.hid (And.intro (b6.cell 0) (b6.cell 1))
  have HBU := Lib.hid h1
  have HB6 := Lib.hid h2
  clear h1 h2 b6
  go_simp
  refine hK _ _ (HQ6.out) ?_
  clear hK K
  refine seq_nil ?_
  obtain ⟨q0, q1⟩ := HQ6.out
  have hbu : Lib.IsBuilder 131 5 w2.heap.size w2.heap.size (Lib.byteCells [112, 32, 99, 110, 102, 32, 50, 32, 48, 10]) w6 := .inr HBU.out
  have CS := Lib.hid (Tryd.Builder_String w2.heap.size w2.heap.size _ w6 hbu (by simp))
  clear hbu
  go_wp2_with fail
  go_loop [30] (fun iv => iv = .int .i64 0) (fun _ => 0)
  case atStart => rfl
  case round =>
    subst hrel
    go_wp2_with fail
    refine CS.out.mono ?_
    rintro e w7 ⟨rfl, hb7⟩
    have HB7 := Lib.hid hb7
    clear hb7
    go_wp2
    go_ret2
    exact ⟨rfl, (HB3.out.trans (HB6.out.mono HS2.out)).trans (HB7.out.mono HS2.out)⟩
theorem texted_any (w : World) : Calls Tryd.prog 9 #[] w fun e w' => e = .returned (.bool true) ∧ Below w.heap.size w w' := by
  have C := Lib.hid (text_two w)
  go_enter Tryd.func9, Tryd.ntmps9
  go_wp2_with fail
  refine C.out.mono ?_
  rintro e w1 ⟨rfl, hb⟩
  have HB := Lib.hid hb
  clear hb
  go_wp2
  go_ret
  exact ⟨rfl, HB.out⟩
end Go.Proofs.YtmbjhpgemphmmaaDoor
