/-
  WALK of the laws' holds: it answers true.
  WALK of sat.Count where the formula is no right one; plain: models with a variable and without, one clause more.
-/
import Derived.Test.YtchpfdppfelmkaaDoorN4
namespace Go.Proofs.YtchpfdppfelmkaaDoor.slv
open Go.RowKit
theorem none_learned {V : Nat} {pf : List (List Int)} (h : PfOk V [] pf) : pf = [] := by
  cases hp : pf with
  | nil => rfl
  | cons c r =>
    exfalso
    rw [hp] at h
    have hr := h.ref 0 c rfl
    obtain ⟨_, _, hl⟩ := h.lit c List.mem_cons_self
    obtain ⟨n, hn, hne⟩ := hr (fun v => if (v : Int) ∈ c then -1 else 1) (fun v => by dsimp only; split <;> omega) (fun x hx => by simp at hx)
    refine hne ?_
    obtain ⟨h1, h2⟩ := hl n hn
    unfold lv
    dsimp only
    by_cases h0 : n < 0
    · rw [if_pos h0, if_neg (fun e => h2 (by rw [show -n = (n.natAbs : Int) by omega]; exact e))]
    · rw [if_neg h0, if_pos (by rw [show (n.natAbs : Int) = n by omega]; exact hn)]
theorem empty_yes {V effort : Nat} {a : Ans} {s : SS} (h : SeE V [] [] effort 0 a s) (he : 0 < effort) : ∃ m, a = .yes m := by
  cases a with
  | yes m => exact ⟨m, rfl⟩
  | no pf =>
    exfalso
    obtain ⟨_, h1, h2⟩ := h
    obtain ⟨z, hz, _⟩ := h2 (fun _ => 1) (fun _ => .inr (.inr rfl)) (h1.sat (A := fun _ => 1) (fun _ => .inl rfl) (fun d hd => by cases hd)).stable
    cases hz
  | tired =>
    exfalso
    obtain ⟨h1, h2⟩ := h
    rw [none_learned h1] at h2
    simp at h2
    omega
def HoP (w : World) (e : Ending) (w' : World) : Prop := e = .returned (.bool true) ∧ Below w.heap.size w w'
set_option maxRecDepth 100000 in
set_option maxHeartbeats 4000000 in
theorem holds_true {w : World} {ea : Nat → Addr} (hes : Sen w ea) : Calls Tryd.prog 8 #[] w (HoP w) := by
  have CS := solve_good (w := w) (V := 2) (n := 0) (c := 0) (effort := 5) (A := none) (F := []) hes (by omega) rfl (fun i l h => by simp at h) (fun d hd => by cases hd) (by omega) (by omega)
  have CS := Lib.hid CS
  clear hes
  go_enter Tryd.func8, Tryd.ntmps8
  go_wp2_with fail
  refine CS.out.mono ?_
  rintro e w1 ⟨a, s', v, rfl, hb1, hE, hA⟩
  obtain ⟨mo, rfl⟩ := empty_yes hE (by omega)
  obtain ⟨A, c, rfl, _⟩ := hA
  have HB := Lib.hid (hb1.alloc hb1.size (.cells #[.string ⟨#[121, 101, 115]⟩, .slice A 2 c, .slice none 0 0] 49))
  clear hb1 hE
  go_wp2_with fail
  go_ret
  exact ⟨rfl, HB.out⟩
end Go.Proofs.YtchpfdppfelmkaaDoor.slv
namespace Go.Proofs.YtchpfdppfelmkaaDoor.slv
open Go.RowKit
theorem CsO.of_at {w : World} {base n : Nat} {A : Option Addr} {c : Nat} {F : List (List Int)} (h : CsAt w base (.slice A n c) F) : CsO w A F := fun i l hl => by
  obtain ⟨rows, h1, h2⟩ := h
  obtain ⟨u, h3, h4⟩ := h2 i l hl
  have hi : i < F.length := (List.getElem?_eq_some_iff.1 hl).1
  obtain ⟨g, c', hv, _, hlt⟩ := h1.form (by omega)
  injection hv with q1 q2 q3
  subst q1
  refine ⟨g, u, rfl, hlt, ?_, own_base h4 (Nat.zero_le _)⟩
  have hr9 : Row w (fun _ => (18, 0)) (18, 0) base 26 (.slice (some ⟨g, 0, none⟩) rows.length c) rows := by
    have hl2 : rows.length = F.length := by have := h1.1; omega
    refine ⟨?_, fun _ _ => rfl⟩
    rw [hl2]
    rw [q2] at h1
    exact h1
  exact hr9.cell h3
/-- counting tells of a formula's fault -/
def CbP (w : World) (ea : Nat → Addr) (v : Int) (F : List (List Int)) (e : Ending) (w' : World) : Prop :=
  ∃ t a cd pl, e = .returned (.tuple #[.int .i64 0, .iface t (.pointer (some a))]) ∧ Below w.heap.size w w' ∧ 0 < cd ∧ FaultIs v F cd pl ∧ EvC w' ea (.iface t (.pointer (some a))) cd pl
def RightF (v : Int) (F : List (List Int)) : Prop := ¬ Off v F.length ∧ F.all (okC v) = true
set_option maxRecDepth 100000 in
set_option maxHeartbeats 4000000 in
theorem count_bad {w : World} {ea : Nat → Addr} {n c B : Nat} {v most : Int} {A : Option Addr} {F : List (List Int)} (hes : Sen w ea) (hF : F.length = n) (hr : ClsR w B A F) (hB : B ≤ w.heap.size) (hls : ∀ d ∈ F, d.length ≤ 1000000) (hbad : ¬ RightF v F) :
    Calls Tryd.prog 11 #[.agg #[.int .i64 v, .slice A n c], .int .i64 most] w (CbP w ea v F) := by
  obtain ⟨W1, hW1⟩ : ∃ W1, W1 = w.alloc (.cells #[.int .i64 v, .slice A n c] 29) := ⟨_, rfl⟩
  have hb1 : Below w.heap.size w W1 := by rw [hW1]; exact (Below.refl _ _).alloc (Nat.le_refl _) _
  have k1 : Blk W1 w.heap.size 29 #[.int .i64 v, .slice A n c] := by rw [hW1]; exact Blk.new w _ _
  have CC := Lib.hid (checkc_any (B := B) (v := v) (c := c) hF (hes.below hb1) hls (hr.below (hb1.mono hB)) (Nat.le_trans hB hb1.size))
  have c0 := k1.cell 0
  have c1 := k1.cell 1
  have HW1 := Lib.hid hW1
  have HB1 := Lib.hid hb1
  have HBAD := Lib.hid hbad
  clear hW1 hb1 k1 hr hes hls hbad hF
  go_enter Tryd.func11, Tryd.ntmps11
  go_upto_region 1 with fail
  rw [← HW1.out]
  go_wp2_with fail
  refine CC.out.mono ?_
  rintro e w2 ⟨ev, cd, pl, rfl, hb2, hfi, hev⟩
  rcases hev.nil_iff with ⟨h0, _⟩ | ⟨h0, t, a, rfl⟩
  · exfalso
    rcases hfi with ⟨_, h1, _⟩ | ⟨h1, ⟨h2, _⟩ | ⟨_, _, h2⟩⟩
    · omega
    · omega
    · exact HBAD.out ⟨h1, h2⟩
  · have HE := Lib.hid (show CbP w ea v F (.returned (.tuple #[.int .i64 0, .iface t (.pointer (some a))])) w2 from ⟨t, a, cd, pl, rfl, HB1.out.trans (hb2.mono HB1.out.size), h0, hfi, hev⟩)
    clear hb2 hfi hev h0 c0 c1
    go_wp2_with fail
    exact bodyPost_ret (v := .tuple #[.int .i64 0, .iface t (.pointer (some a))]) (by simp [results, Tryd.results11, go_sem]) rfl HE.out
/-! ### plain -/
theorem cnt_split {V v : Nat} {F : List (List Int)} (h1 : 1 ≤ v) : cntM V (F ++ [[(v : Int)]]) + cntM V (F ++ [[-(v : Int)]]) = cntM V F := by
  unfold cntM
  have key : ∀ k, (satB (F ++ [[(v : Int)]]) k = (satB F k && k.testBit (v - 1))) ∧ (satB (F ++ [[-(v : Int)]]) k = (satB F k && !(k.testBit (v - 1)))) := fun k => by
    constructor
    · unfold satB
      rw [List.all_append]
      congr 1
      have e : lv (asg k) (v : Int) = if k.testBit (v - 1) then 1 else -1 := by
        unfold lv
        rw [if_neg (by omega)]
        rfl
      cases hb : k.testBit (v - 1) <;> simp [e, hb]
    · unfold satB
      rw [List.all_append]
      congr 1
      have e : lv (asg k) (-(v : Int)) = if k.testBit (v - 1) then -1 else 1 := by
        unfold lv
        rw [if_pos (by omega), Int.natAbs_neg]
        show -(asg k v) = _
        unfold asg
        split <;> rfl
      cases hb : k.testBit (v - 1) <;> simp [e, hb]
  have gen : ∀ l : List Nat, l.countP (satB (F ++ [[(v : Int)]])) + l.countP (satB (F ++ [[-(v : Int)]])) = l.countP (satB F) := by
    intro l
    induction l with
    | nil => rfl
    | cons k r ih =>
      rw [List.countP_cons, List.countP_cons, List.countP_cons, (key k).1, (key k).2]
      cases satB F k <;> cases k.testBit (v - 1) <;> simp <;> omega
  exact gen _
theorem cnt_more {V : Nat} {F : List (List Int)} {c : List Int} : cntM V (F ++ [c]) ≤ cntM V F := by
  unfold cntM
  refine List.countP_mono_left fun k _ h => ?_
  unfold satB at h ⊢
  rw [List.all_append, Bool.and_eq_true] at h
  exact h.1
theorem cnt_le_two {V : Nat} (hV : V ≤ 9) (F : List (List Int)) : cntM V F ≤ 512 := by
  unfold cntM
  refine Nat.le_trans List.countP_le_length ?_
  rw [List.length_range]
  exact Nat.le_trans (Nat.pow_le_pow_right (n := 2) (by omega) hV) (by decide)
end Go.Proofs.YtchpfdppfelmkaaDoor.slv
