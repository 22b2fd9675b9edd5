/-
  THE WALK of the law CnfReads.
-/
import Derived.Test.YtgamnlggaiigbaaDoorRd
namespace Go.Proofs.YtgamnlggaiigbaaDoor
open Go.RowKit
def LPost2 (w : World) (e : Ending) (w' : World) : Prop := e = .returned (.bool true) ∧ Below w.heap.size w w'
theorem texted_any {w : World} (ht : Tens w) (he2 : SentAt w 0) (he3 : SentAt w 2) : Calls Tryd.prog 4 #[] w (LPost2 w) := by
  obtain ⟨q, he2⟩ := he2
  obtain ⟨p, he3⟩ := he3
  have C := text_any (w := w) (v := 2) (A := none) (n := 0) (c := 0) (cs := []) (B := 0) rfl he3 he2 ht (by simp) (fun h => absurd h (by simp)) (Nat.zero_le _) (by decide) (by decide +kernel)
  have e : Rd.txF 2 [] = [112, 32, 99, 110, 102, 32, 50, 32, 48, 10] := by decide +kernel
  rw [e] at C
  have C := Lib.hid C
  clear he2 he3 ht e
  go_enter Tryd.func4, Tryd.ntmps4
  go_wp2_with fail
  refine C.out.mono ?_
  rintro e w1 ⟨rfl, hb⟩
  have HB := Lib.hid hb
  clear hb
  go_wp2
  go_ret
  exact ⟨rfl, HB.out⟩
theorem reads_long {w : World} {s : ByteArray} (hs : 2000 < s.size) (ht : Tens w) (he2 : SentAt w 0) (he3 : SentAt w 2) :
    Calls Tryd.prog 3 #[.string s] w (LPost2 w) := by
  have C := Lib.hid (texted_any ht he2 he3)
  have e1 : decide (2000 < (s.size : Int)) = true := decide_eq_true (by omega)
  clear hs ht he2 he3
  go_enter Tryd.func3, Tryd.ntmps3
  go_wp2_with fail
  refine C.out.mono ?_
  rintro e w1 ⟨rfl, hb⟩
  have HB := Lib.hid hb
  clear hb
  go_wp2
  go_ret
  exact ⟨rfl, HB.out⟩
set_option maxRecDepth 100000 in
set_option maxHeartbeats 4000000 in
theorem reads_short {w : World} {s : ByteArray} (hs : s.size ≤ 2000) (ht : Tens w) (ha : AtE w) (hm : MaxL w) (he1 : SentAt w 1) (he2 : SentAt w 0) (he3 : SentAt w 2) :
    Calls Tryd.prog 3 #[.string s] w (LPost2 w) := by
  have C := Lib.hid (texted_any ht he2 he3)
  have e1 : decide (2000 < (s.size : Int)) = false := decide_eq_false (by omega)
  have HX := Lib.hid (And.intro ht (And.intro ha (And.intro hm (And.intro he1 (And.intro he2 he3)))))
  clear ht ha hm he1 he2 he3
  go_enter Tryd.func3, Tryd.ntmps3
  go_wp2_with fail
  refine C.out.mono ?_
  rintro e w1 ⟨rfl, hb1⟩
  have HB1 := Lib.hid hb1
  have CR := Lib.hid (read_any (s := s) (by omega) (HX.out.1.below hb1) (HX.out.2.1.below hb1) (HX.out.2.2.1.below hb1) (HX.out.2.2.2.1.below hb1) (HX.out.2.2.2.2.1.below hb1) (HX.out.2.2.2.2.2.below hb1))
  clear hb1
  go_wp2_with fail
  refine CR.out.mono ?_
  rintro e w2 ⟨v, lv, ev, rfl, hb2, hres⟩
  have HB2 := Lib.hid (HB1.out.trans (hb2.mono HB1.out.size))
  clear hb2
  rcases hres with ⟨⟨t, p, rfl⟩, rfl, rfl⟩ | ⟨rfl, cs, A, c, lines, rfl, hcl, hok, hxl, hj, hln⟩
  · go_wp2_with fail
    go_ret
    exact ⟨rfl, HB2.out.alloc HB2.out.size _⟩
  · obtain ⟨n, hn⟩ : ∃ n, cs.length = n := ⟨_, rfl⟩
    obtain ⟨W3, hW3⟩ : ∃ W3, W3 = w2.alloc (.cells #[.int .i64 v, .slice A n c] 25) := ⟨_, rfl⟩
    have hb23 : Below w2.heap.size w2 W3 := by rw [hW3]; exact (Below.refl _ _).alloc (Nat.le_refl _) _
    have hb3 : Below w.heap.size w W3 := HB2.out.trans (hb23.mono HB2.out.size)
    have k3 : Blk W3 w2.heap.size 25 #[.int .i64 v, .slice A n c] := by rw [hW3]; exact Blk.new w2 _ _
    have hrt := Rd.read_text (s := s.data.toList) (v := v) (cs := cs) hj hln
    have htl : (Rd.txF v cs).length ≤ 2001 := by
      have h1 := Lib.size_eq s
      rcases hrt with h | h <;> rw [h]
      · omega
      · rw [List.length_append]; simp; omega
    obtain ⟨q, hq⟩ := HX.out.2.2.2.2.1.below hb3
    obtain ⟨p, hp⟩ := HX.out.2.2.2.2.2.below hb3
    have CT := Lib.hid (text_any (v := v) (c := c) hn hp hq (HX.out.1.below hb3) (fun x hx => by have := hxl x hx; omega) (hcl.below hb23) hb23.size hok (by omega))
    rw [hn]
    have HW3 := Lib.hid hW3
    have HB3 := Lib.hid hb3
    have c0 := k3.cell 0
    have c1 := k3.cell 1
    have HRT := Lib.hid hrt
    have g1 : ¬ 9223372036854775807 < s.size + 1 := by omega
    clear hcl hok hxl hj hln hn hW3 hb23 hb3 k3 hrt htl hq hp
    go_upto_region 5 with fail
    rw [← HW3.out]
    go_wp2_with fail
    refine CT.out.mono ?_
    rintro e w4 ⟨rfl, hb4⟩
    have HB4 := Lib.hid (HB3.out.trans (hb4.mono HB3.out.size))
    clear hb4 c0 c1
    obtain ⟨q1, hq1⟩ : ∃ q1, (Rd.txF v cs == s.toList) = q1 := ⟨_, rfl⟩
    cases q1 with
    | true =>
      go_wp2_with fail
      go_ret
      exact ⟨rfl, HB4.out⟩
    | false =>
      have e2 : (Rd.txF v cs == (s ++ ⟨#[10]⟩).toList) = true := by
        rcases HRT.out with h | h
        · rw [h, ByteArray.toList_eq] at hq1; simp at hq1
        · rw [h, ByteArray.toList_eq, ByteArray.data_append]; simp
      go_wp2_with fail
      go_ret
      exact ⟨rfl, HB4.out⟩
end Go.Proofs.YtgamnlggaiigbaaDoor
