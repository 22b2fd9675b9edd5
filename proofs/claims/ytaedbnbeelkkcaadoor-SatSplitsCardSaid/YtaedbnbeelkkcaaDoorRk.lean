/-
  WALKS: cnf.Right, cnf.Check of any formula.
-/
import Derived.Test.YtaedbnbeelkkcaaDoorProg
import Derived.Test.YtaedbnbeelkkcaaDoorLp
import Derived.Test.YtaedbnbeelkkcaaDoorGv
import Derived.Deep.DeepCutAuto
namespace Go.Proofs.YtaedbnbeelkkcaaDoor
open Go.RowKit
/-- clauses, as they are read -/
def ClsR (w : World) (B : Nat) (Ac : Option Addr) (cs : List (List Int)) : Prop :=
  0 < cs.length → ∃ ad, Ac = some ad ∧ ad.block < B ∧ ∀ (i : Nat) (l : List Int), cs[i]? = some l → ∃ A c, w.cell? (ad.add i) = some (.slice A l.length c) ∧ Reads w B 1 A l.length (litVals l)
theorem ClsR.below {w w' : World} {B : Nat} {Ac : Option Addr} {cs : List (List Int)} (h : ClsR w B Ac cs) (hb : Below B w w') : ClsR w' B Ac cs := fun hn => by
  obtain ⟨ad, hA, hB, hc⟩ := h hn
  refine ⟨ad, hA, hB, fun i l hl => ?_⟩
  obtain ⟨A, c, h1, h2⟩ := hc i l hl
  exact ⟨A, c, (hb.cell (p := ad.add i) (by rw [block_of_add]; exact hB)).trans h1, h2.below hb⟩
/-- no variable's number -/
def badN (v n : Int) : Bool := n == 0 || decide (v < n) || decide (n < -v)
def okC (v : Int) (c : List Int) : Bool := !(c.any (badN v))
def okF (v : Int) (cs : List (List Int)) : Bool := decide (0 ≤ v) && decide (v ≤ 150000) && decide (cs.length ≤ 500000) && cs.all (okC v)
theorem okF_len {v : Int} {cs : List (List Int)} (hok : okF v cs = true) : cs.length ≤ 500000 := by
  unfold okF at hok
  simp only [Bool.and_eq_true, decide_eq_true_eq] at hok
  omega
theorem right1_any {w : World} {b : Nat} {v n : Int} (c0 : w.cell? ⟨b, 0, none⟩ = some (.int .i64 v)) (hv : 0 ≤ v ∧ v ≤ 150000) :
    Calls Tryd.prog 41 #[.int .i64 n, .pointer (some ⟨b, 0, none⟩)] w fun e w' => e = .returned (.bool (badN v n)) ∧ w = w' := by
  have hw : IntKind.i64.wrap (-v) = -v := by rw [IntKind.wrap_i64]; omega
  obtain ⟨b1, h1⟩ : ∃ b1, (n == 0) = b1 := ⟨_, rfl⟩
  obtain ⟨b2, h2⟩ : ∃ b2, decide (v < n) = b2 := ⟨_, rfl⟩
  obtain ⟨b3, h3⟩ : ∃ b3, decide (n < -v) = b3 := ⟨_, rfl⟩
  have HV := Lib.hid (show badN v n = (b1 || b2 || b3) by unfold badN; rw [h1, h2, h3])
  clear hv
  cases b1 with
  | true =>
    go_enter Tryd.func41, Tryd.ntmps41
    go_wp2_with fail
    go_ret
    exact ⟨by rw [HV.out]; rfl, rfl⟩
  | false =>
    cases b2 with
    | true =>
      go_enter Tryd.func41, Tryd.ntmps41
      go_wp2_with fail
      go_ret
      exact ⟨by rw [HV.out]; rfl, rfl⟩
    | false =>
      go_enter Tryd.func41, Tryd.ntmps41
      go_wp2_with fail
      go_ret
      exact ⟨by rw [HV.out]; rfl, rfl⟩
def IxK (v : Int) (l : List Int) (iv : Value) : Prop := ∃ k : Nat, k ≤ l.length ∧ iv = .int .i64 (k : Nat) ∧ (l.take k).any (badN v) = false
set_option maxRecDepth 100000 in
set_option maxHeartbeats 1000000 in
theorem index_anyK {w : World} {B b : Nat} {v : Int} {A : Option Addr} {n c : Nat} {l : List Int} (hn : l.length = n) (hl : n ≤ 1000000) (c0 : w.cell? ⟨b, 0, none⟩ = some (.int .i64 v)) (hv : 0 ≤ v ∧ v ≤ 150000) (hr : Reads w B 1 A n (litVals l)) :
    Calls Tryd.prog 54 #[.slice A n c, .func (.func 41) #[] #[.pointer (some ⟨b, 0, none⟩)]] w fun e w' => ∃ r : Int, e = .returned (.int .i64 r) ∧ decide (0 ≤ r) = l.any (badN v) ∧ w = w' := by
  have HR := Lib.hid hr
  have HC := Lib.hid c0
  have HV := Lib.hid hv
  have HN := Lib.hid hn
  clear hr c0 hv
  go_enter Tryd.func54, Tryd.ntmps54
  go_wp2_with fail
  go_loop [8] (fun iv => IxK v l iv) (fun iv => l.length - (intOf iv).toNat)
  case atStart => exact ⟨0, Nat.zero_le _, rfl, by simp⟩
  case round =>
    obtain ⟨k, hk, rfl, hno⟩ := hrel
    rw [hn] at hk
    have HNO := Lib.hid hno
    clear hno
    by_cases hk2 : k < n
    · obtain ⟨x, hx⟩ : ∃ x, l[k]? = some x := ⟨_, List.getElem?_eq_getElem (by omega)⟩
      obtain ⟨ad, hA, _, hc⟩ := HR.out.2 (by omega)
      subst hA
      have cx := hc k (.int .i64 x) (by unfold litVals; simp [hx])
      have C := Lib.hid (right1_any (n := x) HC.out HV.out)
      have HX := Lib.hid hx
      clear hc hx
      go_wp2_with fail
      refine C.out.mono ?_
      rintro e w' ⟨rfl, rfl⟩
      obtain ⟨bb, hbb⟩ : ∃ bb, badN v x = bb := ⟨_, rfl⟩
      rw [hbb]
      have HBB := Lib.hid hbb
      clear hbb
      cases bb with
      | true =>
        go_wp2_with fail
        go_ret
        refine ⟨_, rfl, ?_, rfl⟩
        have : l.any (badN v) = true := List.any_eq_true.2 ⟨x, List.mem_of_getElem? HX.out, HBB.out⟩
        rw [this]; simp
      | false =>
        go_wp2_with fail
        go_round
        case rel =>
          refine ⟨k + 1, by have := HN.out; omega, by go_num, ?_⟩
          rw [Gm.take_one HX.out, List.any_append, HNO.out]
          simp [HBB.out]
        case measure => have := HN.out; simp [intOf]; omega
    · obtain rfl : n = k := by omega
      have hal := HNO.out
      rw [List.take_of_length_le (by omega)] at hal
      have HAL := Lib.hid hal
      clear hal
      go_wp2_with fail
      go_ret
      exact ⟨_, rfl, by rw [HAL.out]; rfl, rfl⟩
theorem contains_anyK {w : World} {B b : Nat} {v : Int} {A : Option Addr} {n c : Nat} {l : List Int} (hn : l.length = n) (hl : n ≤ 1000000) (c0 : w.cell? ⟨b, 0, none⟩ = some (.int .i64 v)) (hv : 0 ≤ v ∧ v ≤ 150000) (hr : Reads w B 1 A n (litVals l)) :
    Calls Tryd.prog 40 #[.slice A n c, .func (.func 41) #[] #[.pointer (some ⟨b, 0, none⟩)]] w fun e w' => e = .returned (.bool (l.any (badN v))) ∧ w = w' := by
  have C := index_anyK (c := c) hn hl c0 hv hr
  obtain ⟨bb, hbb⟩ : ∃ bb, l.any (badN v) = bb := ⟨_, rfl⟩
  rw [hbb] at C ⊢
  have C := Lib.hid C
  clear hr c0 hv hbb
  go_enter Tryd.func40, Tryd.ntmps40
  go_wp2_with fail
  refine C.out.mono ?_
  rintro e w' ⟨r, rfl, hr, rfl⟩
  go_wp2_with fail
  go_ret
  exact ⟨rfl, rfl⟩
theorem cright_any {w : World} {B : Nat} {v : Int} {A : Option Addr} {n c : Nat} {l : List Int} (hn : l.length = n) (hl : n ≤ 1000000) (hv : 0 ≤ v ∧ v ≤ 150000) (hr : Reads w B 1 A n (litVals l)) (hB : B ≤ w.heap.size) :
    Calls Tryd.prog 25 #[.slice A n c, .int .i64 v] w fun e w' => e = .returned (.bool (okC v l)) ∧ Below w.heap.size w w' := by
  have hmf : ∀ (fn : Fn) (first cap : Array Value) (w : World), (Instr.makeFunc fn first cap).run Tryd.prog w = .ok (.func fn first cap) w := fun _ _ _ _ => rfl
  have C := Lib.hid (contains_anyK (w := w.alloc (.cells #[.int .i64 v] 3)) (b := w.heap.size) (c := c) hn hl ((Blk.new w _ _).cell 0) hv (hr.alloc hB _))
  clear hr hv
  obtain ⟨bb, hbb⟩ : ∃ bb, l.any (badN v) = bb := ⟨_, rfl⟩
  have HV := Lib.hid (show okC v l = !bb by unfold okC; rw [hbb])
  rw [hbb] at C
  clear hbb
  go_enter Tryd.func25, Tryd.ntmps25
  go_wp2_with fail
  refine C.out.mono ?_
  rintro e w' ⟨rfl, rfl⟩
  go_wp2_with fail
  go_ret
  exact ⟨by rw [HV.out]; rfl, (Below.refl _ _).alloc (Nat.le_refl _) _⟩
/-- Check's answer -/
def CkP (v : Int) (cs : List (List Int)) (w : World) (e : Ending) (w' : World) : Prop := ∃ ev, e = .returned ev ∧ Below w.heap.size w w' ∧ ((okF v cs = true ∧ ev = .nilIface) ∨ (okF v cs = false ∧ ∃ t p, ev = .iface t (.pointer (some p))))
theorem ckp_w {w w' : World} (h : Below w.heap.size w w') (o : Obj) : Below w.heap.size w (w'.alloc o) := h.alloc h.size o
set_option maxHeartbeats 1000000 in
theorem check_bad {w : World} {p : Addr} {v : Int} {A : Option Addr} {n c : Nat} {cs : List (List Int)} (hn : cs.length = n) (he : w.cell? ⟨0, 0, none⟩ = some (.iface 143 (.pointer (some p)))) (h : v < 0 ∨ 150000 < v ∨ 500000 < n) :
    Calls Tryd.prog 15 #[.agg #[.int .i64 v, .slice A n c]] w (CkP v cs w) := by
  have hlt := World.block_lt_of_cell? w _ he
  have he' : (w.alloc (.cells #[.int .i64 v, .slice A n c] 29)).cell? ⟨0, 0, none⟩ = some (.iface 143 (.pointer (some p))) := by rw [World.cell?_alloc_lt _ _ ⟨_, 0, none⟩ hlt]; exact he
  have HF := Lib.hid (show okF v cs = false by
    unfold okF
    rcases h with h | h | h
    · rw [decide_eq_false (by omega : ¬ 0 ≤ v)]; rfl
    · rw [decide_eq_false (by omega : ¬ v ≤ 150000)]; simp
    · rw [decide_eq_false (by omega : ¬ cs.length ≤ 500000)]; simp)
  by_cases h1 : v < 0
  · have e1 : decide (v < 0) = true := decide_eq_true h1
    clear h h1 he
    go_enter Tryd.func15, Tryd.ntmps15
    go_wp2_with fail
    go_ret
    exact ⟨_, rfl, (Below.refl _ _).alloc (Nat.le_refl _) _, .inr ⟨HF.out, _, _, rfl⟩⟩
  · have e1 : decide (v < 0) = false := decide_eq_false h1
    by_cases h2 : 150000 < v
    · have e2 : decide (150000 < v) = true := decide_eq_true h2
      clear h h1 h2 he
      go_enter Tryd.func15, Tryd.ntmps15
      go_wp2_with fail
      go_ret
      exact ⟨_, rfl, (Below.refl _ _).alloc (Nat.le_refl _) _, .inr ⟨HF.out, _, _, rfl⟩⟩
    · have e2 : decide (150000 < v) = false := decide_eq_false h2
      have e3 : decide (500000 < (n : Int)) = true := decide_eq_true (by omega)
      clear h h1 h2 he
      go_enter Tryd.func15, Tryd.ntmps15
      go_wp2_with fail
      go_ret
      exact ⟨_, rfl, (Below.refl _ _).alloc (Nat.le_refl _) _, .inr ⟨HF.out, _, _, rfl⟩⟩
def CkR (W1 : World) (v : Int) (cs : List (List Int)) (iv : Value) (wr : World) : Prop := ∃ k : Nat, k ≤ cs.length ∧ iv = .int .i64 (k : Nat) ∧ (cs.take k).all (okC v) = true ∧ Below W1.heap.size W1 wr
set_option maxRecDepth 100000 in
set_option maxHeartbeats 2000000 in
theorem check_in {w : World} {B : Nat} {p : Addr} {v : Int} {A : Option Addr} {n c : Nat} {cs : List (List Int)} (hn : cs.length = n) (he : w.cell? ⟨1, 0, none⟩ = some (.iface 143 (.pointer (some p)))) (hv : 0 ≤ v ∧ v ≤ 150000) (hn5 : n ≤ 500000)
    (hls : ∀ x ∈ cs, x.length ≤ 1000000) (hr : ClsR w B A cs) (hB : B ≤ w.heap.size) : Calls Tryd.prog 15 #[.agg #[.int .i64 v, .slice A n c]] w (CkP v cs w) := by
  have HLS := Lib.hid hls
  have hlt := World.block_lt_of_cell? w _ he
  obtain ⟨W1, hW1⟩ : ∃ W1, W1 = w.alloc (.cells #[.int .i64 v, .slice A n c] 29) := ⟨_, rfl⟩
  have hb1 : Below w.heap.size w W1 := by rw [hW1]; exact (Below.refl _ _).alloc (Nat.le_refl _) _
  have k1 : Blk W1 w.heap.size 29 #[.int .i64 v, .slice A n c] := by rw [hW1]; exact Blk.new w _ _
  have e1 : decide (v < 0) = false := decide_eq_false (by omega)
  have e2 : decide (150000 < v) = false := decide_eq_false (by omega)
  have e3 : decide (500000 < (n : Int)) = false := decide_eq_false (by omega)
  have HF := Lib.hid (show okF v cs = cs.all (okC v) by unfold okF; rw [decide_eq_true hv.1, decide_eq_true hv.2, decide_eq_true (by omega : cs.length ≤ 500000)]; simp)
  have HW1 := Lib.hid hW1
  have HB1 := Lib.hid hb1
  have HK1 := Lib.hid k1
  have HE := Lib.hid (And.intro he hlt)
  have HR := Lib.hid (hr.below (hb1.mono hB))
  have HV := Lib.hid hv
  have HBB := Lib.hid (Nat.le_trans hB hb1.size)
  clear hW1 hb1 k1 he hlt hr hv hls
  go_enter Tryd.func15, Tryd.ntmps15
  go_upto_region 1 with fail
  rw [← HW1.out]
  have c0 := HK1.out.cell 0
  have c1 := HK1.out.cell 1
  go_wp2_with fail
  clear c0 c1
  go_loopw [23] (fun iv wr => CkR W1 v cs iv wr) (fun iv _ => cs.length - (intOf iv).toNat)
  case atStart => exact ⟨0, Nat.zero_le _, rfl, by simp, Below.refl _ _⟩
  case round =>
    obtain ⟨k, hk, rfl, hal, hb⟩ := hrel
    rw [hn] at hk
    have HAL := Lib.hid hal
    have HB := Lib.hid (HB1.out.trans (hb.mono HB1.out.size))
    have HBW := Lib.hid hb
    have kr := HK1.out.below hb HK1.out.lt
    have HKR := Lib.hid kr
    clear hal hb kr
    by_cases hk2 : k < n
    · obtain ⟨x, hx⟩ : ∃ x, cs[k]? = some x := ⟨_, List.getElem?_eq_getElem (by omega)⟩
      obtain ⟨ad, hA, hadb, hc⟩ := (HR.out.below (HBW.out.mono HBB.out)) (by omega)
      subst hA
      obtain ⟨Ax, cx, hcell, hrx⟩ := hc k x hx
      obtain ⟨m, hm⟩ : ∃ m, x.length = m := ⟨_, rfl⟩
      rw [hm] at hcell hrx
      have C := Lib.hid (cright_any (c := cx) hm (by rw [← hm]; exact HLS.out x (List.mem_of_getElem? hx)) HV.out hrx (Nat.le_trans HBB.out HBW.out.size))
      have c0 := HKR.out.cell 0
      have HX := Lib.hid hx
      clear hc hrx hx hm
      go_wp2_with fail
      refine C.out.mono ?_
      rintro e w2 ⟨rfl, hb2⟩
      obtain ⟨bb, hbb⟩ : ∃ bb, okC v x = bb := ⟨_, rfl⟩
      rw [hbb]
      have HBB2 := Lib.hid hbb
      have HB2 := Lib.hid (HB.out.trans (hb2.mono HB.out.size))
      have HBW2 := Lib.hid (HBW.out.trans (hb2.mono HBW.out.size))
      have ce := (HB2.out.cell (p := ⟨1, 0, none⟩) HE.out.2).trans HE.out.1
      clear hbb hb2 c0 hcell
      cases bb with
      | true =>
        clear ce
        go_wp2_with fail
        go_roundw
        case rel =>
          refine ⟨k + 1, by omega, by go_num, ?_, HBW2.out⟩
          rw [Gm.take_one HX.out, List.all_append, HAL.out]
          simp [HBB2.out]
        case measure => simp [intOf]; omega
      | false =>
        go_wp2_with fail
        go_ret
        refine ⟨_, rfl, HB2.out.alloc HB2.out.size _, .inr ⟨?_, _, _, rfl⟩⟩
        rw [HF.out, List.all_eq_false]
        exact ⟨x, List.mem_of_getElem? HX.out, by rw [HBB2.out]; simp⟩
    · obtain rfl : n = k := by omega
      have hal := HAL.out
      rw [List.take_of_length_le (by omega)] at hal
      have HAL2 := Lib.hid hal
      clear hal
      go_wp2_with fail
      go_ret
      exact ⟨_, rfl, HB.out, .inl ⟨by rw [HF.out, HAL2.out], rfl⟩⟩
theorem check_any {w : World} {B : Nat} {p q : Addr} {v : Int} {A : Option Addr} {n c : Nat} {cs : List (List Int)} (hn : cs.length = n) (he : w.cell? ⟨1, 0, none⟩ = some (.iface 143 (.pointer (some p))))
    (he2 : w.cell? ⟨0, 0, none⟩ = some (.iface 143 (.pointer (some q)))) (hls : cs.length ≤ 500000 → ∀ x ∈ cs, x.length ≤ 1000000) (hr : ClsR w B A cs) (hB : B ≤ w.heap.size) : Calls Tryd.prog 15 #[.agg #[.int .i64 v, .slice A n c]] w (CkP v cs w) := by
  by_cases h : v < 0 ∨ 150000 < v ∨ 500000 < n
  · exact check_bad hn he2 h
  · exact check_in hn he (by omega) (by omega) (hls (by omega)) hr hB
end Go.Proofs.YtaedbnbeelkkcaaDoor
