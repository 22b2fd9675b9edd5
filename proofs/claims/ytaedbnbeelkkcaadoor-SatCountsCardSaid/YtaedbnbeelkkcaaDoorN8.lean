/-
  WALK of the reference's Models: how many models a formula of few variables has.
  THE WALK of the law SatCounts.
-/
import Derived.Test.YtaedbnbeelkkcaaDoorMo
import Derived.Test.YtaedbnbeelkkcaaDoorAj
import Derived.Test.YtaedbnbeelkkcaaDoorN3
import Derived.Test.YtaedbnbeelkkcaaDoorN7
import Derived.Test.YtaedbnbeelkkcaaDoorTc
namespace Go.Proofs.YtaedbnbeelkkcaaDoor
open Go.RowKit
def bitsH (V k : Nat) : List Bool := (List.range V).map fun i => k.testBit i
theorem bitsH_of {V k : Nat} {vs : List Bool} (h : vs.length = V) (hb : ∀ j, j < V → vs[j]? = some (k.testBit j)) : vs = bitsH V k := by
  apply List.ext_getElem?
  intro j
  by_cases hj : j < V
  · rw [hb j hj]; unfold bitsH; simp [hj]
  · rw [List.getElem?_eq_none (by omega), List.getElem?_eq_none (by unfold bitsH; simp; omega)]
theorem bit_int (k i : Nat) : (((k : Int) / 2 ^ i).tmod 2 == 1) = k.testBit i := by
  have e : ((k : Int) / 2 ^ i) = ((k / 2 ^ i : Nat) : Int) := by simp
  have e2 : (((k / 2 ^ i : Nat) : Int).tmod 2) = ((k / 2 ^ i % 2 : Nat) : Int) := by
    generalize k / 2 ^ i = m
    rw [Int.tmod_eq_emod_of_nonneg (by omega)]; omega
  rw [e, e2, Nat.testBit_eq_decide_div_mod_eq]
  rcases Nat.mod_two_eq_zero_or_one (k / 2 ^ i) with h | h <;> rw [h] <;> rfl
def cntH (V : Nat) (cs : List (List Int)) (k : Nat) : Nat := (List.range k).countP fun j => Cn.forH (bitsH V j) cs
theorem cntH_succ {V k : Nat} {cs : List (List Int)} {q : Bool} (h : Cn.forH (bitsH V k) cs = q) : cntH V cs (k + 1) = if q = true then cntH V cs k + 1 else cntH V cs k := by
  unfold cntH
  rw [List.range_succ, List.countP_append, List.countP_singleton, h]
  cases q <;> simp
theorem cntH_le (V : Nat) (cs : List (List Int)) (k : Nat) : cntH V cs k ≤ k := by
  unfold cntH
  exact Nat.le_trans List.countP_le_length (by rw [List.length_range]; exact Nat.le_refl _)
def MoS (w : World) (v : Value) (g V k i : Nat) (wr : World) : Prop :=
  ∃ vs : List Bool, vs.length = V ∧ (∀ j, j < i → vs[j]? = some (k.testBit j)) ∧ Below w.heap.size w wr ∧ Blk wr w.heap.size 24 #[.int .i64 (V : Nat), v] ∧ Blk wr g 4 (boolVals vs).toArray
set_option maxRecDepth 100000 in
set_option maxHeartbeats 4000000 in
theorem models_any {w : World} {B V : Nat} {A : Option Addr} {n c : Nat} {cs : List (List Int)} (hn : cs.length = n) (hr : ClsR w B A cs) (hB : B ≤ w.heap.size) (hV : V ≤ 12)
    (hl : cs.length ≤ 1000) (hb : ∀ c ∈ cs, c.length ≤ 1000 ∧ ∀ x ∈ c, -(V : Int) ≤ x ∧ x ≤ (V : Int)) :
    Calls Tryd.prog 12 #[.agg #[.int .i64 (V : Nat), .slice A n c]] w fun e w' => e = .returned (.int .i64 (cntH V cs (2 ^ V) : Nat)) ∧ Below w.heap.size w w' := by
  obtain ⟨W1, hW1⟩ : ∃ W1, W1 = w.alloc (.cells #[.int .i64 (V : Nat), .slice A n c] 24) := ⟨_, rfl⟩
  have hb1 : Below w.heap.size w W1 := by rw [hW1]; exact (Below.refl _ _).alloc (Nat.le_refl _) _
  have k1 : Blk W1 w.heap.size 24 #[.int .i64 (V : Nat), .slice A n c] := by rw [hW1]; exact Blk.new w _ _
  have c0 := k1.cell 0
  have m1 := make_boolV V (by omega) W1
  have HW1 := Lib.hid hW1
  have HB1 := Lib.hid hb1
  have HK1 := Lib.hid k1
  have HX := Lib.hid (And.intro hr hB)
  have HN := Lib.hid hn
  have HBD := Lib.hid (And.intro hl hb)
  clear hW1 hb1 k1 hr hB hn hl hb
  go_enter Tryd.func12, Tryd.ntmps12
  go_upto_region 1 with fail
  rw [← HW1.out]
  obtain ⟨M, hM⟩ : ∃ M : Nat, 2 ^ V = M := ⟨_, rfl⟩
  have hMb : M ≤ 4096 := by rw [← hM]; exact Nat.pow_le_pow_right (by omega) hV
  have w2 : IntKind.i64.wrap ((2 : Int) ^ V) = (M : Int) := by
    have : ((2 : Int) ^ V) = ((2 ^ V : Nat) : Int) := by simp
    rw [this, hM, IntKind.wrap_i64]; omega
  have HM := Lib.hid hM
  obtain ⟨g, hg⟩ : ∃ g, W1.heap.size = g := ⟨_, rfl⟩
  have hgw : w.heap.size < g := by rw [← hg]; exact HK1.out.lt
  have H0 := Lib.hid (show MoS w (.slice A n c) g V 0 0 (W1.alloc (.cells (boolVals (List.replicate V false)).toArray 4)) from
    ⟨List.replicate V false, by simp, fun j hj => absurd hj (Nat.not_lt_zero _), HB1.out.alloc HB1.out.size _, HK1.out.alloc _, by rw [← hg]; exact Blk.new W1 _ _⟩)
  rw [hg] at m1
  clear hM
  go_wp2_with fail
  go_loopw [4, 5] (fun nv kv wr => ∃ k : Nat, k ≤ M ∧ kv = .int .i64 (k : Nat) ∧ nv = .int .i64 (cntH V cs k : Nat) ∧ MoS w (.slice A n c) g V k 0 wr) (fun _ kv _ => M - (intOf kv).toNat)
  case atStart => exact ⟨0, Nat.zero_le _, rfl, rfl, H0.out⟩
  case round =>
    clear H0 m1 c0
    obtain ⟨k, hk, e1, e2, vs, hvs, _, hb, kf, kv⟩ := hrel
    subst e1
    subst e2
    have c0 := kf.cell 0
    by_cases hkM : k < M
    · have d1 : decide ((k : Int) < (M : Int)) = true := decide_eq_true (by omega)
      have hkI : (k : Int) < (M : Int) := by omega
      have HI0 := Lib.hid (show MoS w (.slice A n c) g V k 0 wr from ⟨vs, hvs, fun j hj => absurd hj (Nat.not_lt_zero _), hb, kf, kv⟩)
      clear hvs hb kf kv
      go_wp2_with fail
      go_loopw [6] (fun iv wx => ∃ i : Nat, i ≤ V ∧ iv = .int .i64 (i : Nat) ∧ MoS w (.slice A n c) g V k i wx) (fun iv _ => V - (intOf iv).toNat)
      case atStart => exact ⟨0, Nat.zero_le _, rfl, HI0.out⟩
      case round =>
        clear HI0 c0
        obtain ⟨i, hi, e2, vs, hvs, hbit, hb, kf, kv⟩ := hrel
        subst e2
        have c0 := kf.cell 0
        by_cases hiV : i < V
        · have hiI : (i : Int) < (V : Int) := by omega
          have hiN : i < 64 := by omega
          have w3 : IntKind.i64.wrap ((i : Int) + 1) = (i : Int) + 1 := by rw [IntKind.wrap_i64]; omega
          obtain ⟨x, hx⟩ : ∃ x, vs[i]? = some x := ⟨_, List.getElem?_eq_getElem (by omega)⟩
          have cv : wr.cell? ⟨g, i, none⟩ = some (.bool x) := by rw [Blk.cell kv]; unfold boolVals; simp [hx]
          have fv : wr.frozen? ⟨g, i, none⟩ = false := kv.frozen i
          have HWB := Lib.hid (bit_int k i)
          have HN := Lib.hid (show MoS w (.slice A n c) g V k (i + 1) (wr.setCell ⟨g, i, none⟩ (.bool (k.testBit i))) from
            ⟨vs.set i (k.testBit i), by simp [hvs], fun j hj => by
              by_cases e : j = i
              · rw [e, List.getElem?_set_self (by omega)]
              · rw [List.getElem?_set_ne (fun e2 => e e2.symm)]; exact hbit j (by omega), hb.setCell (by show w.heap.size ≤ g; omega) _, kf.far (p := ⟨g, i, none⟩) (by show w.heap.size ≠ g; omega) _, by
              have h := kv.set_ i (.bool (k.testBit i))
              have e : (boolVals vs).toArray.setIfInBounds i (.bool (k.testBit i)) = (boolVals (vs.set i (k.testBit i))).toArray := by unfold boolVals; simp [List.map_set]
              rw [e] at h; exact h⟩)
          clear hvs hbit hb kf kv hx
          go_wp2_with fail
          go_roundw
          case rel => exact ⟨i + 1, hiV, by go_num, by have h := HN.out; rw [← HWB.out] at h; exact h⟩
          case measure => simp [intOf]; omega
        · obtain rfl : i = V := by omega
          have hvB : Cn.forH vs cs = Cn.forH (bitsH i k) cs := by rw [show vs = bitsH i k from bitsH_of hvs hbit]
          obtain ⟨q9, hq9⟩ : ∃ q9, Cn.forH (bitsH i k) cs = q9 := ⟨_, rfl⟩
          rw [hq9] at hvB
          have hrd : Reads wr wr.heap.size 1 (some ⟨g, 0, none⟩) vs.length (boolVals vs) := by
            refine ⟨by unfold boolVals; simp, fun _ => ⟨⟨g, 0, none⟩, rfl, kv.lt, fun j u hu => ?_⟩⟩
            have e : (⟨g, 0, none⟩ : Addr).add j = ⟨g, j, none⟩ := by
              unfold Addr.add; split
              · rename_i h0; rw [h0]
              · simp
            first
              | (rw [e, Blk.cell kv]; simpa using hu)
              | (rw [Blk.cell kv]; simpa using hu)
          obtain ⟨r1, z1⟩ := HX.out
          have CH := Lib.hid (holds_any (q := i) (cc := c) (cv := i) (B := wr.heap.size) ((r1.below (hb.mono z1)).wide (Nat.le_trans z1 hb.size)) hrd (Nat.le_refl _) (by have := HBD.out.1; omega) (by omega) (fun y hy => by
            have := HBD.out.2 y hy
            rw [hvs]; exact this))
          rw [hvs, HN.out, hvB] at CH
          have c1 := kf.cell 1
          have HB := Lib.hid hb
          have KF := Lib.hid kf
          have KV := Lib.hid kv
          have HVS := Lib.hid hvs
          have HCN := Lib.hid (cntH_succ hq9)
          clear hvs hbit hb kf kv hvB hrd r1 z1 hq9
          go_wp2_with fail
          refine CH.out.mono ?_
          rintro e w5 ⟨rfl, hb5⟩
          have HN5 := Lib.hid (show MoS w (.slice A n c) g i (k + 1) 0 w5 from ⟨vs, HVS.out, fun j hj => absurd hj (Nat.not_lt_zero _), HB.out.trans (hb5.mono HB.out.size), KF.out.below hb5 KF.out.lt, KV.out.below hb5 KV.out.lt⟩)
          clear hb5 c0 c1
          have wn : IntKind.i64.wrap ((cntH i cs k : Int) + 1) = ((cntH i cs k + 1 : Nat) : Int) := by have := cntH_le i cs k; rw [IntKind.wrap_i64]; omega
          cases q9 with
          | true =>
            have hc := HCN.out
            rw [if_pos rfl] at hc
            go_wp2_with fail
            go_roundw
            case rel => exact ⟨k + 1, hkM, by go_num, by rw [hc]; go_num, HN5.out⟩
            case measure => simp [intOf]; omega
          | false =>
            have hc := HCN.out
            rw [if_neg (by decide)] at hc
            go_wp2_with fail
            go_roundw
            case rel => exact ⟨k + 1, hkM, by go_num, by rw [hc], HN5.out⟩
            case measure => simp [intOf]; omega
    · obtain rfl : k = M := by omega
      have HM2 := HM.out
      go_wp2_with fail
      go_ret
      exact ⟨by rw [HM2]; rfl, hb⟩
end Go.Proofs.YtaedbnbeelkkcaaDoor
namespace Go.Proofs.YtaedbnbeelkkcaaDoor
open Go.RowKit
theorem errs_sen {w : World} {ea : Nat → Addr} {B : Nat} (h : Errs w ea B) : Sen w ea := ⟨h.var 2 (by omega) (by omega), h.var 3 (by omega) (by omega)⟩
theorem faulted_evc {w : World} {ea : Nat → Addr} {B : Nat} (he : Errs w ea B) (hB : B ≤ w.heap.size) {ev : Value} {c at_ : Int} (h : EvC w ea ev c at_) :
    Calls Tryd.prog 10 #[ev, .agg #[.int .i64 c, .int .i64 at_]] w fun e w' => e = .returned (.bool true) ∧ Below w.heap.size w w' := by
  have hb : Below w.heap.size w (w.alloc (.cells #[.int .i64 c, .int .i64 at_] 37)) := (Below.refl _ _).alloc (Nat.le_refl _) _
  have he2 := he.below (hb.mono hB)
  have hB2 := Nat.le_trans hB hb.size
  rcases h with ⟨rfl, rfl⟩ | ⟨rfl, rfl, rfl⟩ | ⟨rfl, rfl, rfl⟩ | ⟨hc, pb, rfl, h3, h4⟩
  · exact faulted_of (n := 0) (at_ := -1) ((code_nil _).mono fun e w' h => ⟨h.1, h.2 ▸ Below.refl _ _⟩) rfl (.inl rfl)
  · exact faulted_of (n := (2 : Nat)) (at_ := -1) (code_sent he2 hB2 (k := 2) (by omega) (by omega)) rfl (.inr rfl)
  · exact faulted_of (n := (8 : Nat)) (at_ := -1) (code_sent he2 hB2 (k := 8) (by omega) (by omega)) rfl (.inr rfl)
  · rcases hc with rfl | rfl
    · exact faulted_of (n := (3 : Nat)) (at_ := at_) (code_fault he2 hB2 (k := 3) (by omega) (by omega) ((hb.cell (World.block_lt_of_cell? _ _ h3)).trans h3) ((hb.cell (World.block_lt_of_cell? _ _ h4)).trans h4)) rfl (.inr rfl)
    · exact faulted_of (n := (8 : Nat)) (at_ := at_) (code_fault he2 hB2 (k := 8) (by omega) (by omega) ((hb.cell (World.block_lt_of_cell? _ _ h3)).trans h3) ((hb.cell (World.block_lt_of_cell? _ _ h4)).trans h4)) rfl (.inr rfl)
theorem coded_sent {w : World} {ea : Nat → Addr} {B : Nat} (h : Errs w ea B) (hB : B ≤ w.heap.size) {k : Nat} (hk : 1 ≤ k) (hk9 : k ≤ 9) :
    Calls Tryd.prog 11 #[errV ea k, .int .i64 k] w fun e w' => e = .returned (.bool true) ∧ Below w.heap.size w w' := by
  have C := Lib.hid (code_sent h hB hk hk9)
  clear h hB
  go_enter Tryd.func11, Tryd.ntmps11
  go_wp2_with fail
  refine C.out.mono ?_
  rintro e w1 ⟨rfl, hb⟩
  have HB := Lib.hid hb
  clear hb
  go_wp2
  go_ret
  exact ⟨by simp, HB.out⟩
namespace slv
theorem litH_lv {V k : Nat} {z : Int} (h : Lit V z) : Cn.litH (bitsH V k) z = decide (lv (asg k) z = 1) := by
  obtain ⟨h1, h2⟩ := h
  have hget : ∀ v : Nat, 1 ≤ v → v ≤ V → (bitsH V k).getD (v - 1) false = k.testBit (v - 1) := fun v a b => by
    unfold bitsH
    rw [List.getD_eq_getElem?_getD, List.getElem?_map, List.getElem?_range (by omega)]; rfl
  unfold Cn.litH lv asg
  by_cases h0 : z < 0
  · rw [if_pos h0, decide_eq_true h0, decide_eq_false (by omega : ¬ 0 < z), hget (-z).toNat (by omega) (by omega), show (-z).toNat = z.natAbs by omega]
    cases k.testBit (z.natAbs - 1) <;> simp
  · rw [if_neg h0, decide_eq_false h0, decide_eq_true (by omega : 0 < z), hget z.toNat (by omega) (by omega), show z.toNat = z.natAbs by omega]
    cases k.testBit (z.natAbs - 1) <;> simp
theorem any_eq {α : Type} {p q : α → Bool} : ∀ {l : List α}, (∀ x ∈ l, p x = q x) → l.any p = l.any q
  | [], _ => rfl
  | x :: r, h => by rw [List.any_cons, List.any_cons, h x List.mem_cons_self, any_eq fun y hy => h y (List.mem_cons_of_mem _ hy)]
theorem all_eq_ {α : Type} {p q : α → Bool} : ∀ {l : List α}, (∀ x ∈ l, p x = q x) → l.all p = l.all q
  | [], _ => rfl
  | x :: r, h => by rw [List.all_cons, List.all_cons, h x List.mem_cons_self, all_eq_ fun y hy => h y (List.mem_cons_of_mem _ hy)]
theorem forH_sat {V k : Nat} {F : List (List Int)} (h : ∀ d ∈ F, ∀ z ∈ d, Lit V z) : Cn.forH (bitsH V k) F = satB F k := by
  unfold Cn.forH satB Cn.clH
  exact all_eq_ fun d hd => any_eq fun z hz => litH_lv (h d hd z hz)
theorem cntH_M {V : Nat} {F : List (List Int)} (h : ∀ d ∈ F, ∀ z ∈ d, Lit V z) : cntH V F (2 ^ V) = cntM V F := by
  unfold cntH cntM
  congr 1
  funext k
  exact forH_sat h
set_option maxRecDepth 100000 in
set_option maxHeartbeats 4000000 in
/-- so many models at most: out of bounds -/
theorem count_most {w : World} {ea : Nat → Addr} {n c B : Nat} {v most : Int} {A : Option Addr} {F : List (List Int)} (hes : Sen w ea) (hF : F.length = n) (hr : ClsR w B A F) (hB : B ≤ w.heap.size) (hls : F.length ≤ 500000 → ∀ d ∈ F, d.length ≤ 1000000) (hgood : RightF v F) (hm : most < 0 ∨ 100000 < most) :
    Calls Tryd.prog 8 #[.agg #[.int .i64 v, .slice A n c], .int .i64 most] w (fun e w' => e = .returned (.tuple #[.int .i64 0, erV ea 2]) ∧ Below w.heap.size w w') := by
  obtain ⟨W1, hW1⟩ : ∃ W1, W1 = w.alloc (.cells #[.int .i64 v, .slice A n c] 29) := ⟨_, rfl⟩
  have hb1 : Below w.heap.size w W1 := by rw [hW1]; exact (Below.refl _ _).alloc (Nat.le_refl _) _
  have k1 : Blk W1 w.heap.size 29 #[.int .i64 v, .slice A n c] := by rw [hW1]; exact Blk.new w _ _
  have CC := Lib.hid (checkc_any (B := B) (v := v) (c := c) hF (hes.below hb1) hls (hr.below (hb1.mono hB)) (Nat.le_trans hB hb1.size))
  have c0 := k1.cell 0
  have c1 := k1.cell 1
  have HW1 := Lib.hid hW1
  have HB1 := Lib.hid hb1
  have HG := Lib.hid hgood
  have HES := Lib.hid hes
  have HM := Lib.hid hm
  have HF := Lib.hid hF
  clear hW1 hb1 k1 hr hes hls hgood hF hm
  go_enter Tryd.func8, Tryd.ntmps8
  go_upto_region 1 with fail
  rw [← HW1.out]
  go_wp2_with fail
  refine CC.out.mono ?_
  rintro e w2 ⟨ev, cd, pl, rfl, hb2, hfi, hev⟩
  rcases hev.nil_iff with ⟨h0, hev0⟩ | ⟨h0, t, a, rfl⟩
  rotate_left
  · exfalso
    obtain ⟨g1, g2⟩ := HG.out
    rcases hfi with ⟨h1, _⟩ | ⟨_, ⟨_, i, x, _, hx, hbad, _⟩ | ⟨h2, _⟩⟩
    · exact g1 h1
    · have := List.all_eq_true.1 g2 x (List.mem_of_getElem? hx)
      rw [hbad] at this; cases this
    · omega
  subst hev0
  have hb2' : Below w.heap.size w w2 := HB1.out.trans (hb2.mono HB1.out.size)
  have hes2 := (HES.out.below hb2').c2
  have HEN := Lib.hid (fun q => show Below w.heap.size w (w2.drewN q) from below_drewN hb2' q)
  have HE2 := Lib.hid hes2
  clear hfi hev hb2 c0 c1 hb2' hes2
  by_cases h1 : most < 0
  · have t1 : decide (most < 0) = true := decide_eq_true h1
    clear h1
    have hes2 := HE2.out
    go_upto_region 5 with fail
    go_quiet (fail)
    have HEQ := Lib.hid (HEN.out nq)
    clear HEN hes2
    go_wp2_with fail
    exact bodyPost_ret (v := .tuple #[.int .i64 0, erV ea 2]) (by simp [results, Tryd.results8, go_sem, erV]) rfl ⟨rfl, HEQ.out⟩
  · have t1 : decide (most < 0) = false := decide_eq_false h1
    have t2 : decide (100000 < most) = true := decide_eq_true (by have := HM.out; omega)
    clear h1
    have hes2 := HE2.out
    go_upto_region 5 with fail
    go_quiet (fail)
    have HEQ := Lib.hid (HEN.out nq)
    clear HEN hes2
    go_wp2_with fail
    exact bodyPost_ret (v := .tuple #[.int .i64 0, erV ea 2]) (by simp [results, Tryd.results8, go_sem, erV]) rfl ⟨rfl, HEQ.out⟩
attribute [local irreducible] wpSeq
set_option maxRecDepth 100000 in
set_option maxHeartbeats 16000000 in
theorem counts_any {w : World} {B EB : Nat} {ea : Nat → Addr} {v0 most : Int} {A : Option Addr} {n c : Nat} {cs : List (List Int)} (hn : cs.length = n) (hes : Errs w ea EB) (hE : EB ≤ w.heap.size) (hwt : Fits cs) (hr : ClsR w B A cs) (hB : B ≤ w.heap.size) :
    Calls Tryd.prog 4 #[.agg #[.int .i64 v0, .slice A n c], .int .i64 most] w (RtT w) := by
  obtain ⟨W1, hW1⟩ : ∃ W1, W1 = w.alloc (.cells #[.int .i64 v0, .slice A n c] 24) := ⟨_, rfl⟩
  have hb1 : Below w.heap.size w W1 := by rw [hW1]; exact (Below.refl _ _).alloc (Nat.le_refl _) _
  have k1 : Blk W1 w.heap.size 24 #[.int .i64 v0, .slice A n c] := by rw [hW1]; exact Blk.new w _ _
  have C0 := Lib.hid (holds_true (errs_sen (hes.below (hb1.mono hE))))
  have HX := Lib.hid (show ∀ w', Below w.heap.size w w' → Errs w' ea EB ∧ EB ≤ w'.heap.size ∧ ClsR w' B A cs ∧ B ≤ w'.heap.size from fun w' hb =>
    ⟨hes.below (hb.mono hE), Nat.le_trans hE hb.size, hr.below (hb.mono hB), Nat.le_trans hB hb.size⟩)
  have HW1 := Lib.hid hW1
  have HB1 := Lib.hid hb1
  have HK1 := Lib.hid k1
  have HWT := Lib.hid hwt
  have HN := Lib.hid hn
  clear hn hes hE hwt hr hB hW1 hb1 k1
  go_enter Tryd.func4, Tryd.ntmps4
  go_upto_region 1 with fail
  rw [← HW1.out]
  go_wp2_with fail
  refine C0.out.mono ?_
  rintro e w2 ⟨rfl, hb2⟩
  have HB2 := Lib.hid (HB1.out.trans (hb2.mono HB1.out.size))
  have HK2 := Lib.hid (HK1.out.below hb2 HK1.out.lt)
  clear hb2
  have c0 := HK2.out.cell 0
  have c1 := HK2.out.cell 1
  obtain ⟨_, _, r2, z2⟩ := HX.out w2 HB2.out
  have CS := Lib.hid (slight_any (v := v0) (c := c) HN.out HWT.out r2 z2)
  clear r2 z2
  go_wp2_with fail
  refine CS.out.mono ?_
  rintro e w3 ⟨rfl, hb3⟩
  obtain ⟨q, hq⟩ : ∃ q, decide (IntKind.i64.wrap ((wtC cs : Nat) : Int) ≤ 500) = q := ⟨_, rfl⟩
  rw [hq]
  have HQ := Lib.hid hq
  have HB3 := Lib.hid (HB2.out.trans (hb3.mono HB2.out.size))
  have HK3 := Lib.hid (HK2.out.below hb3 HK2.out.lt)
  clear hb3 hq c0 c1
  cases q with
  | false =>
    go_wp2_with fail
    go_ret
    exact ⟨rfl, HB3.out⟩
  | true =>
  have HW5 := Lib.hid (fits_says HWT.out HQ.out)
  have HLS := Lib.hid (show cs.length ≤ 500000 → ∀ x ∈ cs, x.length ≤ 500 from fun h5 x hx => by have := HW5.out h5; have := wtC_mem hx; omega)
  have HN5 := Lib.hid (show cs.length ≤ 500000 → n ≤ 500 from fun h5 => by have := HW5.out h5; have := wtC_len cs; have := HN.out; omega)
  have c0 := HK3.out.cell 0
  have c1 := HK3.out.cell 1
  by_cases h9 : 9 < v0 ∧ v0 ≤ 150000
  · have e1 : decide (9 < v0) = true := decide_eq_true h9.1
    have e2 : decide (v0 ≤ 150000) = true := decide_eq_true h9.2
    clear h9
    go_wp2_with fail
    go_ret
    exact ⟨rfl, HB3.out⟩
  have HV9 := Lib.hid h9
  have CF := Lib.hid (formulaOf_any (v := v0) (c := c) HN.out (by have := HWT.out.1; have := HN.out; omega) HWT.out.2 (HX.out w3 HB3.out).2.2.1 (HX.out w3 HB3.out).2.2.2)
  obtain ⟨b3, b4, e3, e4, hbb⟩ : ∃ b3 b4 : Bool, decide (9 < v0) = b3 ∧ decide (v0 ≤ 150000) = b4 ∧ (b3 = false ∨ (b3 = true ∧ b4 = false)) := by
    refine ⟨_, _, rfl, rfl, ?_⟩
    by_cases h1 : 9 < v0
    · exact .inr ⟨decide_eq_true h1, decide_eq_false (fun h2 => h9 ⟨h1, h2⟩)⟩
    · exact .inl (decide_eq_false h1)
  clear h9
  rcases hbb with rfl | ⟨rfl, rfl⟩
  all_goals
    go_wp2_with fail
    refine CF.out.mono ?_
    rintro e w4 ⟨A4, c4, rfl, hcs4, hb4⟩
    have HB4 := Lib.hid (HB3.out.trans (hb4.mono HB3.out.size))
    have HK4 := Lib.hid (HK3.out.below hb4 HK3.out.lt)
    have HCS4 := Lib.hid hcs4
    clear c0 c1 hb4 hcs4 CF e3 e4
    by_cases hR : RightF v0 cs
    · obtain ⟨V, hV⟩ : ∃ V : Nat, v0 = (V : Int) := ⟨v0.toNat, by have := hR.1; unfold Off at this; omega⟩
      subst hV
      have HVV := Lib.hid (show V ≤ 9 by have := hR.1; unfold Off at this; have := HV9.out; omega)
      have HLIT := Lib.hid (show ∀ d ∈ cs, ∀ z ∈ d, Lit V z from fun d hd => okC_lit.1 (List.all_eq_true.1 hR.2 d hd))
      have HR := Lib.hid hR
      have h5 : cs.length ≤ 500000 := by have := hR.1; unfold Off at this; omega
      have HLS := Lib.hid (HLS.out h5)
      have HN5 := Lib.hid (HN5.out h5)
      clear h5
      obtain ⟨m, hm⟩ : ∃ m, cntM V cs = m := ⟨_, rfl⟩
      have HM := Lib.hid hm
      have HCNT := Lib.hid (show Calls Tryd.prog 8 #[.agg #[.int .i64 (V : Nat), .slice A4 n c4], .int .i64 most] w4 (fun e w' => ∃ (p : Int) (ev : Value), e = .returned (.tuple #[.int .i64 p, ev]) ∧ Below w4.heap.size w4 w' ∧
          (((most < 0 ∨ 100000 < most) ∧ p = 0 ∧ ev = errV ea 2) ∨ (0 ≤ most ∧ most ≤ 100000 ∧ (m : Int) ≤ most ∧ p = (m : Int) ∧ ev = .nilIface) ∨ (0 ≤ most ∧ most ≤ 100000 ∧ most < (m : Int) ∧ p = 0 ∧ ev = errV ea 2))) from by
        have hs4 := errs_sen (HX.out w4 HB4.out).1
        by_cases hb : 0 ≤ most ∧ most ≤ 100000
        · obtain ⟨mo, hmo⟩ : ∃ mo : Nat, most = (mo : Int) := ⟨most.toNat, by omega⟩
          subst hmo
          have h := count_good (most := mo) (m := m) (c := c4) hs4 HVV.out HN.out (CsO.of_at HCS4.out) (fun d hd => ⟨by have := HLS.out d hd; omega, HLIT.out d hd⟩) (by have := HN5.out; omega) (by omega) HM.out
          refine h.mono ?_
          rintro e w2 ⟨rfl, hb2⟩
          refine ⟨_, _, rfl, hb2, ?_⟩
          by_cases hle : m ≤ mo
          · exact .inr (.inl ⟨by omega, by omega, by omega, by rw [if_pos hle], by rw [if_pos hle]⟩)
          · exact .inr (.inr ⟨by omega, by omega, by omega, by rw [if_neg hle]; rfl, by rw [if_neg hle]; rfl⟩)
        · have h := count_most (most := most) (c := c4) hs4 HN.out (clsr_of_own HCS4.out) (Nat.le_refl _) (fun _ d hd => by have := HLS.out d hd; omega) HR.out (by omega)
          refine h.mono ?_
          rintro e w2 ⟨rfl, hb2⟩
          exact ⟨_, _, rfl, hb2, .inl ⟨by omega, rfl, rfl⟩⟩)
      clear hR hm
      go_wp2_with fail
      refine HCNT.out.mono ?_
      rintro e w5 ⟨p, ev, rfl, hb5, hev⟩
      have HB5 := Lib.hid (HB4.out.trans (hb5.mono HB4.out.size))
      have HK5 := Lib.hid (HK4.out.below hb5 HK4.out.lt)
      have HEV := Lib.hid hev
      have c0 := HK5.out.cell 0
      have c1 := HK5.out.cell 1
      obtain ⟨_, _, r5, z5⟩ := HX.out w5 HB5.out
      have CO := Lib.hid (checkOf_any (v := ((V : Nat) : Int)) (c := c) HN.out (fun _ x hx => by have := HLS.out x hx; omega) r5 z5)
      clear hb5 hev r5 z5 HCNT
      go_wp2_with fail
      refine CO.out.mono ?_
      rintro e w6 ⟨cd, pl, rfl, hb6, hfi⟩
      obtain rfl : cd = 0 := by
        obtain ⟨g1, g2⟩ := HR.out
        rcases hfi with ⟨h1, _⟩ | ⟨_, ⟨_, i, x, _, hx, hbad, _⟩ | ⟨h2, _⟩⟩
        · exact absurd h1 g1
        · have := List.all_eq_true.1 g2 x (List.mem_of_getElem? hx)
          rw [hbad] at this; cases this
        · exact h2
      have HB6 := Lib.hid (HB5.out.trans (hb6.mono HB5.out.size))
      have HK6 := Lib.hid (HK5.out.below hb6 HK5.out.lt)
      clear hb6 hfi c0 c1 HK5 CO
      go_upto_region 6 with fail
      obtain ⟨W7, hW7⟩ : ∃ W7, W7 = w6.alloc (.cells #[.int .i64 0, .int .i64 pl] 37) := ⟨_, rfl⟩
      have hb7 : Below w6.heap.size w6 W7 := by rw [hW7]; exact (Below.refl _ _).alloc (Nat.le_refl _) _
      have k7 : Blk W7 w6.heap.size 37 #[.int .i64 0, .int .i64 pl] := by rw [hW7]; exact Blk.new w6 _ _
      have HB7 := Lib.hid (HB6.out.trans (hb7.mono HB6.out.size))
      have HK7 := Lib.hid (HK6.out.below hb7 HK6.out.lt)
      have d0 := k7.cell 0
      have d1 := k7.cell 1
      have c0 := HK7.out.cell 0
      have c1 := HK7.out.cell 1
      rw [← hW7]
      clear hb7 k7 hW7
      have CC2 := Lib.hid (show ∀ w', Below w.heap.size w w' → Calls Tryd.prog 11 #[errV ea 2, .int .i64 2] w' fun e w'' => e = .returned (.bool true) ∧ Below w'.heap.size w' w'' from fun w' hb => coded_sent (HX.out w' hb).1 (HX.out w' hb).2.1 (k := 2) (by omega) (by omega))
      rcases HEV.out with ⟨hmo, rfl, rfl⟩ | ⟨hm1, hm2, hm3, rfl, rfl⟩ | ⟨hm1, hm2, hm3, rfl, rfl⟩
      · have CC7 := Lib.hid (CC2.out W7 HB7.out)
        obtain ⟨q1, q2, e1, e2, hqq⟩ : ∃ q1 q2 : Bool, decide (most < 0) = q1 ∧ decide (100000 < most) = q2 ∧ (q1 = true ∨ (q1 = false ∧ q2 = true)) := by
          refine ⟨_, _, rfl, rfl, ?_⟩
          by_cases h1 : most < 0
          · exact .inl (decide_eq_true h1)
          · exact .inr ⟨decide_eq_false h1, decide_eq_true (by omega)⟩
        clear hmo CC2
        rcases hqq with rfl | ⟨rfl, rfl⟩
        all_goals
          go_wp2_with fail
          refine CC7.out.mono ?_
          rintro e w8 ⟨rfl, hb8⟩
          have HB8 := Lib.hid (HB7.out.trans (hb8.mono HB7.out.size))
          clear hb8 c0 c1 d0 d1 e1 e2 CC7
          go_wp2_with fail
          go_ret
          exact ⟨rfl, HB8.out⟩
      all_goals
        have e1 : decide (most < 0) = false := decide_eq_false (by omega)
        have e2 : decide (100000 < most) = false := decide_eq_false (by omega)
        obtain ⟨_, _, r7, z7⟩ := HX.out W7 HB7.out
        have CM := models_any (V := V) (c := c) HN.out r7 z7 (by have := HVV.out; omega) (by have := HN5.out; have := HN.out; omega) (fun d hd => ⟨by have := HLS.out d hd; omega, fun x hx => by have := HLIT.out d hd x hx; unfold Lit at this; omega⟩)
        rw [cntH_M HLIT.out, HM.out] at CM
        have CM := Lib.hid CM
        have HMM := Lib.hid hm3
        clear r7 z7 hm1 hm2 hm3
        go_wp2_with fail
        refine CM.out.mono ?_
        rintro e w8 ⟨rfl, hb8⟩
        have HB8 := Lib.hid (HB7.out.trans (hb8.mono HB7.out.size))
        have CC8 := Lib.hid (CC2.out w8 HB8.out)
        clear hb8 c0 c1 d0 d1 e1 e2 CM CC2
      · have e3 : decide (most < (m : Int)) = false := decide_eq_false (by have := HMM.out; omega)
        have e4 : ¬ most < (m : Int) := by have := HMM.out; omega
        go_wp2_with fail
        go_ret
        exact ⟨by simp, HB8.out⟩
      · have e3 : decide (most < (m : Int)) = true := decide_eq_true HMM.out
        have e4 : most < (m : Int) := HMM.out
        go_wp2_with fail
        refine CC8.out.mono ?_
        rintro e w9 ⟨rfl, hb9⟩
        have HB9 := Lib.hid (HB8.out.trans (hb9.mono HB8.out.size))
        clear hb9 e3 e4 CC8
        go_wp2_with fail
        go_ret
        exact ⟨rfl, HB9.out⟩
    · have CB := Lib.hid (count_bad (most := most) (v := v0) (c := c4) (errs_sen (HX.out w4 HB4.out).1) HN.out (clsr_of_own HCS4.out) (Nat.le_refl _) (fun h5 d hd => by have := HLS.out h5 d hd; omega) hR)
      clear hR
      go_wp2_with fail
      refine CB.out.mono ?_
      rintro e w5 ⟨t, a, cd, pl, rfl, hb5, hcd, hfi, hev⟩
      have HB5 := Lib.hid (HB4.out.trans (hb5.mono HB4.out.size))
      have HK5 := Lib.hid (HK4.out.below hb5 HK4.out.lt)
      have HFI := Lib.hid hfi
      have HEV := Lib.hid hev
      have HCD := Lib.hid hcd
      have c0 := HK5.out.cell 0
      have c1 := HK5.out.cell 1
      obtain ⟨_, _, r5, z5⟩ := HX.out w5 HB5.out
      have CO := Lib.hid (checkOf_any (v := v0) (c := c) HN.out (fun h5 x hx => by have := HLS.out h5 x hx; omega) r5 z5)
      clear hb5 hfi hev hcd r5 z5 CB
      go_wp2_with fail
      refine CO.out.mono ?_
      rintro e w6 ⟨cd2, pl2, rfl, hb6, hfi2⟩
      obtain ⟨hcd, hpl⟩ := faultIs_eq hfi2 HFI.out
      subst hcd hpl
      have HB6 := Lib.hid (HB5.out.trans (hb6.mono HB5.out.size))
      have HEV6 := Lib.hid (HEV.out.below hb6)
      clear hb6 hfi2 c0 c1 HK5 CO
      go_upto_region 6 with fail
      obtain ⟨W7, hW7⟩ : ∃ W7, W7 = w6.alloc (.cells #[.int .i64 cd2, .int .i64 pl2] 37) := ⟨_, rfl⟩
      have hb7 : Below w6.heap.size w6 W7 := by rw [hW7]; exact (Below.refl _ _).alloc (Nat.le_refl _) _
      have k7 : Blk W7 w6.heap.size 37 #[.int .i64 cd2, .int .i64 pl2] := by rw [hW7]; exact Blk.new w6 _ _
      have HB7 := Lib.hid (HB6.out.trans (hb7.mono HB6.out.size))
      have c0 := k7.cell 0
      have c1 := k7.cell 1
      have CFA := Lib.hid (faulted_evc (HX.out W7 HB7.out).1 (HX.out W7 HB7.out).2.1 (HEV6.out.below hb7))
      have e1 : decide (0 < cd2) = true := decide_eq_true HCD.out
      rw [← hW7]
      clear hb7 k7 hW7
      go_wp2_with fail
      refine CFA.out.mono ?_
      rintro e w8 ⟨rfl, hb8⟩
      have HB8 := Lib.hid (HB7.out.trans (hb8.mono HB7.out.size))
      clear hb8 c0 c1 e1 CFA
      go_wp2_with fail
      go_ret
      exact ⟨rfl, HB8.out⟩
end slv
end Go.Proofs.YtaedbnbeelkkcaaDoor
