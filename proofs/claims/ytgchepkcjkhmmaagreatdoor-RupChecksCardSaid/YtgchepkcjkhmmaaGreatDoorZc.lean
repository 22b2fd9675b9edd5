/-
  WALK of the document's byUnits.
-/
import Derived.Test.YtgchepkcjkhmmaaGreatDoorZb
import Derived.Test.YtgchepkcjkhmmaaGreatDoorZe
namespace Go.Proofs.YtgchepkcjkhmmaaGreatDoor
open Go.RowKit
section
variable {w wr : World} {g V : Nat} {vs : List Int}
theorem blk_set (h : Blk wr g 3 (litVals vs).toArray) (j : Nat) (z : Int) : Blk (wr.setCell ⟨g, j, none⟩ (.int .i64 z)) g 3 (litVals (vs.set j z)).toArray := by
  have := h.set_ j (.int .i64 z)
  have e : (litVals vs).toArray.setIfInBounds j (.int .i64 z) = (litVals (vs.set j z)).toArray := by
    rw [← lit_set]; simp
  rw [e] at this; exact this
theorem blk_cell (h : Blk wr g 3 (litVals vs).toArray) {j : Nat} {u : Int} (hu : vs[j]? = some u) : wr.cell? ⟨g, j, none⟩ = some (.int .i64 u) := by
  rw [h.cell]; simp [lit_at hu]
open Classical in
/-- how often the loop goes round at most -/
noncomputable def ByM (g V : Nat) (mv : Value) (wr : World) : Nat := if mv = .bool true then (List.range (V + 1)).countP (fun j => decide (wr.cell? ⟨g, j, none⟩ = some (.int .i64 0))) + 1 else 0
theorem byM_false : ByM g V (.bool false) wr = 0 := by unfold ByM; rw [if_neg (by simp)]
theorem byM_true (h : Blk wr g 3 (litVals vs).toArray) (hl : vs.length = V + 1) : ByM g V (.bool true) wr = zeros vs + 1 := by
  unfold ByM zeros
  rw [if_pos rfl]
  congr 1
  have e : vs = (List.range (V + 1)).map (fun j => vs.getD j 0) := by
    apply List.ext_getElem?
    intro j
    rw [List.getElem?_map]
    by_cases hj : j < V + 1
    · rw [List.getElem?_eq_getElem (by omega), List.getElem?_range hj, Option.map_some, List.getD_eq_getElem?_getD, List.getElem?_eq_getElem (by omega : j < vs.length)]; rfl
    · rw [List.getElem?_eq_none (by omega), List.getElem?_eq_none (by simp; omega)]; rfl
  conv => rhs; rw [e]
  rw [List.countP_map]
  refine List.countP_congr fun j hj => ?_
  have hj := List.mem_range.1 hj
  have hu : vs[j]? = some vs[j] := List.getElem?_eq_getElem (by omega)
  rw [blk_cell h hu]
  simp [List.getD_eq_getElem?_getD, hu]
end
def ByMem (w : World) (_V : Nat) (vs : List Int) (wr : World) : Prop := Blk wr w.heap.size 3 (litVals vs).toArray ∧ Below w.heap.size w wr
theorem ByMem.set_ {w wr : World} {V : Nat} {vs : List Int} (h : ByMem w V vs wr) (j : Nat) (z : Int) : ByMem w V (vs.set j z) (wr.setCell ⟨w.heap.size, j, none⟩ (.int .i64 z)) :=
  ⟨blk_set h.1 j z, h.2.setCell (Nat.le_refl _) _⟩
def ByP (w : World) (L : List (List Int)) (c : List Int) (e : Ending) (w' : World) : Prop := ∃ b : Bool, e = .returned (.bool b) ∧ (b = true ↔ Ref L c) ∧ Below w.heap.size w w'
def ByR1 (w : World) (V : Nat) (L : List (List Int)) (c : List Int) (iv : Value) (wr : World) : Prop := ∃ (i : Nat) (vs : List Int), i ≤ c.length ∧ iv = .int .i64 (i : Nat) ∧ ByMem w V vs wr ∧ ByA V L c vs i
def ByR2 (w : World) (V : Nat) (L : List (List Int)) (c : List Int) (mv : Value) (wr : World) : Prop := ∃ (more : Bool) (vs : List Int), mv = .bool more ∧ ByMem w V vs wr ∧ ByB V L c vs L.length more
def ByR3 (w : World) (V : Nat) (L : List (List Int)) (c : List Int) (Z : Nat) (iv mv : Value) (wr : World) : Prop := ∃ (k : Nat) (more : Bool) (vs : List Int), k ≤ L.length ∧ iv = .int .i64 (k : Nat) ∧ mv = .bool more ∧ ByMem w V vs wr ∧ ByB V L c vs k more ∧ zeros vs ≤ Z ∧ (more = true → zeros vs < Z)
def ByR4 (vs x : List Int) (ov lv hv kv : Value) : Prop := ∃ (k : Nat) (op last : Int) (hold : Bool), k ≤ x.length ∧ ov = .int .i64 op ∧ lv = .int .i64 last ∧ hv = .bool hold ∧ kv = .int .i64 (k : Nat) ∧ NmI vs x k op last hold
set_option maxRecDepth 100000 in
set_option maxHeartbeats 4000000 in
theorem byUnits_any {w : World} {B B2 V : Nat} {A A2 : Option Addr} {n cn m cm : Nat} {L : List (List Int)} {c : List Int} (hL : ClsR w B A L) (hn : L.length = n) (hB : B ≤ w.heap.size) (hc : Reads w B2 1 A2 m (litVals c)) (hm : c.length = m) (hB2 : B2 ≤ w.heap.size)
    (hV : V ≤ 500000) (hn5 : n ≤ 1000000) (hm5 : m ≤ 1000000) (hlL : ∀ x ∈ L, ∀ y ∈ x, Lit V y) (hlc : ∀ y ∈ c, Lit V y) (hxl : ∀ x ∈ L, x.length ≤ 1000000) :
    Calls Tryz.prog 20 #[.slice A n cn, .int .i64 (V : Nat), .slice A2 m cm] w (ByP w L c) := by
  have mk1 := make_int V (by omega) w
  have hw1 : IntKind.i64.wrap ((V : Int) + 1) = (V : Int) + 1 := by rw [IntKind.wrap_i64]; omega
  obtain ⟨W1, hW1⟩ : ∃ W1, W1 = w.alloc (.cells (litVals (List.replicate (V + 1) 0)).toArray 3) := ⟨_, rfl⟩
  have HST := Lib.hid (show ByR1 w V L c (.int .i64 ((0 : Nat) : Int)) W1 from ⟨0, _, Nat.zero_le _, rfl, ⟨by rw [hW1]; exact Blk.new w _ _, by rw [hW1]; exact (Below.refl _ _).alloc (Nat.le_refl _) _⟩, ByA.start V L c⟩)
  obtain ⟨g, hg⟩ : ∃ g, w.heap.size = g := ⟨_, rfl⟩
  rw [hg] at mk1
  have HG := Lib.hid hg
  rw [← hW1] at mk1
  have HL := Lib.hid hL
  have HN := Lib.hid hn
  have HB := Lib.hid hB
  have HC := Lib.hid hc
  have HM := Lib.hid hm
  have HB2 := Lib.hid hB2
  have HLL := Lib.hid hlL
  have HLC := Lib.hid hlc
  have HXL := Lib.hid hxl
  have HMEM := Lib.hid (fun (vs : List Int) (wr : World) (h : ByMem w V vs wr) (hl : vs.length = V + 1) (j : Nat) (hj : j ≤ V) => show ∃ u, vs[j]? = some u ∧ wr.cell? ⟨g, j, none⟩ = some (.int .i64 u) ∧ wr.frozen? ⟨g, j, none⟩ = false from by
    have hu : vs[j]? = some vs[j] := List.getElem?_eq_getElem (by omega)
    have h1 := h.1
    rw [hg] at h1
    exact ⟨_, hu, blk_cell h1 hu, h1.frozen j⟩)
  have HSET := Lib.hid (fun (vs : List Int) (wr : World) (h : ByMem w V vs wr) (j : Nat) (z : Int) => show ByMem w V (vs.set j z) (wr.setCell ⟨g, j, none⟩ (.int .i64 z)) from by
    have := h.set_ j z
    rw [hg] at this; exact this)
  clear hW1 hg hL hn hB hc hm hB2 hlL hlc hxl
  go_enter Tryz.func20, Tryz.ntmps20
  go_wp2_with fail
  clear mk1 hw1
  go_loopw [8] (fun iv wr => ByR1 w V L c iv wr) (fun iv _ => c.length - (intOf iv).toNat)
  case atStart => exact HST.out
  case round =>
    obtain ⟨i, vs, hi, rfl, hmem, hby⟩ := hrel
    clear HST
    rw [HM.out] at hi
    have HME := Lib.hid hmem
    have HBY := Lib.hid hby
    clear hmem hby
    by_cases him : i < m
    · as_aux_lemma =>
      obtain ⟨x, hx⟩ : ∃ x, c[i]? = some x := ⟨_, List.getElem?_eq_getElem (by have := HM.out; omega)⟩
      obtain ⟨ad, hA2, _, hcc⟩ := (HC.out.below (HME.out.2.mono HB2.out)).2 (by omega)
      subst hA2
      have cx := hcc i _ (lit_at hx)
      have hlx := HLC.out x (List.mem_of_getElem? hx)
      obtain ⟨j, hj⟩ : ∃ j, x.natAbs = j := ⟨_, rfl⟩
      obtain ⟨u, hu, cu, fu⟩ := HMEM.out vs wr HME.out HBY.out.vlen j (by rw [← hj]; exact hlx.2)
      have hv3 : u = -1 ∨ u = 0 ∨ u = 1 := HBY.out.vok u (List.mem_of_getElem? hu)
      have hlv : lv (va vs) x = if x < 0 then -u else u := by
        unfold lv va
        rw [List.getD_eq_getElem?_getD, hj, hu]; rfl
      have hjV : (j : Int) < (V : Int) + 1 := by have := hlx.2; omega
      have hj1 : 1 ≤ j := by have := hlx.1; omega
      have iI : (i : Int) < (m : Int) := by omega
      have HX := Lib.hid hx
      have HLX := Lib.hid hlx
      have HLV := Lib.hid hlv
      have HJ := Lib.hid hj
      clear hcc hx hu hlx hlv
      by_cases hneg : x < 0
      · obtain rfl : x = -(j : Int) := by omega
        have w1 : IntKind.i64.wrap (- -(j : Int)) = (j : Int) := by rw [IntKind.wrap_i64]; omega
        have hpos : ¬ (0 : Int) < -(j : Int) := by omega
        clear hj
        by_cases hu1 : u = -1
        · subst hu1
          have HR := Lib.hid (HBY.out.hit HX.out HLX.out (by rw [HLV.out, if_pos hneg]; rfl))
          clear hneg
          go_wp2_with fail
          go_ret
          exact ⟨true, rfl, ⟨fun _ => HR.out, fun _ => rfl⟩, HME.out.2⟩
        · have hun : ((u : Int) == -1) = false := by simp [hu1]
          have HNX := Lib.hid (show ByR1 w V L c (.int .i64 ((i + 1 : Nat) : Int)) (wr.setCell ⟨g, j, none⟩ (.int .i64 1)) from ⟨i + 1, vs.set j 1, by have := HM.out; omega, rfl, HSET.out vs wr HME.out j 1, by
            have := HBY.out.step HX.out HLX.out (by rw [HLV.out, if_pos hneg]; omega) HLC.out
            rw [HJ.out, sg_neg HLX.out.1, if_pos hneg] at this; exact this⟩)
          clear hneg
          go_wp2_with fail
          go_roundw
          case rel => exact HNX.out
          case measure => have := HM.out; simp [intOf]; omega
      · obtain rfl : x = (j : Int) := by omega
        have hpos : (0 : Int) < (j : Int) := by omega
        clear hj
        by_cases hu1 : u = 1
        · subst hu1
          have HR := Lib.hid (HBY.out.hit HX.out HLX.out (by rw [HLV.out, if_neg hneg]))
          clear hneg
          go_wp2_with fail
          go_ret
          exact ⟨true, rfl, ⟨fun _ => HR.out, fun _ => rfl⟩, HME.out.2⟩
        · have hun : ((u : Int) == 1) = false := by simp [hu1]
          have HNX := Lib.hid (show ByR1 w V L c (.int .i64 ((i + 1 : Nat) : Int)) (wr.setCell ⟨g, j, none⟩ (.int .i64 (-1))) from ⟨i + 1, vs.set j (-1), by have := HM.out; omega, rfl, HSET.out vs wr HME.out j (-1), by
            have := HBY.out.step HX.out HLX.out (by rw [HLV.out, if_neg hneg]; exact hu1) HLC.out
            rw [HJ.out, sg_neg HLX.out.1, if_neg hneg] at this; exact this⟩)
          clear hneg
          go_wp2_with fail
          go_roundw
          case rel => exact HNX.out
          case measure => have := HM.out; simp [intOf]; omega
    · as_aux_lemma =>
      obtain rfl : i = m := by omega
      have hb0 := HBY.out
      rw [← HM.out] at hb0
      have HST := Lib.hid (show ByR2 w V L c (.bool true) wr from ⟨true, vs, rfl, HME.out, { toByV := hb0.toByV, neg := hb0.toB.neg, st := fun e => by cases e }⟩)
      clear hb0 HBY HME him
      go_wp2_with fail
      go_loopw [10] (fun mv wr => ByR2 w V L c mv wr) (fun mv wr => ByM g V mv wr)
      case atStart => exact HST.out
      case round =>
        obtain ⟨more, vs, rfl, hmem, hby⟩ := hrel
        clear HST
        cases more with
        | false =>
          have HR := Lib.hid hby.no
          have HME := Lib.hid hmem
          clear hby hmem
          go_wp2_with fail
          go_ret
          exact ⟨false, rfl, ⟨(fun e => by cases e), fun h => absurd h HR.out⟩, HME.out.2⟩
        | true =>
          have HZM := Lib.hid (show ByM g V (.bool true) wr = zeros vs + 1 from byM_true (by have := hmem.1; rw [HG.out] at this; exact this) hby.vlen)
          obtain ⟨Z, hZ⟩ : ∃ Z, zeros vs = Z := ⟨_, rfl⟩
          rw [hZ] at HZM
          have HST := Lib.hid (show ByR3 w V L c Z (.int .i64 ((0 : Nat) : Int)) (.bool false) wr from ⟨0, false, vs, Nat.zero_le _, rfl, rfl, hmem, hby.again, by omega, fun e => by cases e⟩)
          clear hmem hby hZ
          go_wp2_with fail
          go_loopw [11, 10] (fun iv mv wr => ByR3 w V L c Z iv mv wr) (fun iv _ _ => L.length - (intOf iv).toNat)
          case atStart => exact HST.out
          case round =>
            obtain ⟨k, more, vs, hk, rfl, rfl, hmem, hby, hz1, hz2⟩ := hrel
            clear HST
            rw [HN.out] at hk
            have HME := Lib.hid hmem
            have HBY := Lib.hid hby
            have HZ2 := Lib.hid hz2
            clear hmem hby hz2
            by_cases hkn : k < n
            · obtain ⟨x, hx⟩ : ∃ x, L[k]? = some x := ⟨_, List.getElem?_eq_getElem (by have := HN.out; omega)⟩
              obtain ⟨ad, hA, _, hcc⟩ := (HL.out.below (HME.out.2.mono HB.out)) (by have := HN.out; omega)
              subst hA
              obtain ⟨Ax, cx, hcell, hrx⟩ := hcc k x hx
              obtain ⟨q, hq⟩ : ∃ q, x.length = q := ⟨_, rfl⟩
              have hq5 : q ≤ 1000000 := by rw [← hq]; exact HXL.out x (List.mem_of_getElem? hx)
              rw [hq] at hcell hrx
              have kI : (k : Int) < (n : Int) := by omega
              have HRX := Lib.hid hrx
              have HX := Lib.hid hx
              have HQ := Lib.hid hq
              have HLX := Lib.hid (HLL.out x (List.mem_of_getElem? hx))
              have HS4 := Lib.hid (show ByR4 vs x (.int .i64 ((0 : Nat) : Int)) (.int .i64 ((0 : Nat) : Int)) (.bool false) (.int .i64 ((0 : Nat) : Int)) from ⟨0, 0, 0, false, Nat.zero_le _, rfl, rfl, rfl, rfl, NmI.start vs x⟩)
              clear hcc hrx hx hq
              go_wp2_with fail
              go_loop [12, 13, 14, 15] (fun ov lv hv kv => ByR4 vs x ov lv hv kv) (fun _ _ _ kv => x.length - (intOf kv).toNat)
              case atStart => exact HS4.out
              case round =>
                obtain ⟨t, op, last, hold, ht, rfl, rfl, rfl, rfl, hnm⟩ := hrel
                clear HS4
                rw [HQ.out] at ht
                have HNM := Lib.hid hnm
                clear hnm
                by_cases hgo : t < q ∧ hold = false
                · as_aux_lemma =>
                  obtain ⟨htq, rfl⟩ := hgo
                  obtain ⟨z, hz⟩ : ∃ z, x[t]? = some z := ⟨_, List.getElem?_eq_getElem (by have := HQ.out; omega)⟩
                  obtain ⟨ax, hax, _, hcz⟩ := HRX.out.2 (by omega)
                  subst hax
                  have cz := hcz t _ (lit_at hz)
                  have hlz := HLX.out z (List.mem_of_getElem? hz)
                  obtain ⟨j, hj⟩ : ∃ j, z.natAbs = j := ⟨_, rfl⟩
                  obtain ⟨u, hu, cu, _⟩ := HMEM.out vs wr HME.out HBY.out.vlen j (by rw [← hj]; exact hlz.2)
                  have hu3 : u = -1 ∨ u = 0 ∨ u = 1 := HBY.out.vok u (List.mem_of_getElem? hu)
                  have hlv : lv (va vs) z = if z < 0 then -u else u := by
                    unfold lv va
                    rw [List.getD_eq_getElem?_getD, hj, hu]; rfl
                  have hjV : (j : Int) < (V : Int) + 1 := by have := hlz.2; omega
                  have hj1 : 1 ≤ j := by have := hlz.1; omega
                  have tI : (t : Int) < (q : Int) := by omega
                  have hop : 0 ≤ op ∧ op ≤ (t : Int) := by
                    rcases HNM.out with ⟨h, _⟩ | ⟨_, _, ⟨h, _⟩ | ⟨h1, h2, _⟩⟩
                    · cases h
                    · omega
                    · omega
                  have hz0 : z ≠ 0 := hlz.1
                  have HZ := Lib.hid hz
                  have HJ := Lib.hid hj
                  obtain ⟨vz, hvz⟩ : ∃ vz, lv (va vs) z = vz := ⟨_, rfl⟩
                  have hvz3 : vz = -1 ∨ vz = 0 ∨ vz = 1 := by rw [← hvz]; exact HBY.out.ok z
                  have HVZ := Lib.hid hvz
                  have huz : u = if z < 0 then -vz else vz := by rw [← hvz, hlv]; split <;> omega
                  clear hcz hz hu hlv hvz hlz hu3
                  have hsgn : (z < 0 ∧ z = -(j : Int) ∧ u = -vz) ∨ (0 < z ∧ z = (j : Int) ∧ u = vz) := by
                    by_cases hneg : z < 0
                    · rw [if_pos hneg] at huz; exact .inl ⟨hneg, by omega, huz⟩
                    · rw [if_neg hneg] at huz; exact .inr ⟨by omega, by omega, huz⟩
                  clear huz hj
                  rcases hvz3 with h1 | h1 | h1
                  · subst h1
                    have HNX := Lib.hid (show ByR4 vs x (.int .i64 op) (.int .i64 last) (.bool false) (.int .i64 ((t + 1 : Nat) : Int)) from ⟨t + 1, op, last, false, by have := HQ.out; omega, rfl, rfl, rfl, rfl, HNM.out.neg HZ.out HVZ.out⟩)
                    rcases hsgn with ⟨hneg, e1, e2⟩ | ⟨hpos, e1, e2⟩
                    · subst e1 e2
                      have w1 : IntKind.i64.wrap (- -(j : Int)) = (j : Int) := by rw [IntKind.wrap_i64]; omega
                      have hpos : ¬ (0 : Int) < -(j : Int) := by omega
                      clear hneg hz0
                      go_wp2_with fail
                      go_round
                      case rel => exact HNX.out
                      case measure => have := HQ.out; simp [intOf]; omega
                    · subst e1 e2
                      clear hz0
                      go_wp2_with fail
                      go_round
                      case rel => exact HNX.out
                      case measure => have := HQ.out; simp [intOf]; omega
                  · subst h1
                    by_cases hzl : z = last
                    · have HNX := Lib.hid (show ByR4 vs x (.int .i64 op) (.int .i64 last) (.bool false) (.int .i64 ((t + 1 : Nat) : Int)) from ⟨t + 1, op, last, false, by have := HQ.out; omega, rfl, rfl, rfl, rfl, HNM.out.same HZ.out hz0 HVZ.out hzl⟩)
                      subst hzl
                      have hne : ((z : Int) != z) = false := by simp
                      rcases hsgn with ⟨hneg, e1, e2⟩ | ⟨hpos, e1, e2⟩
                      · subst e1 e2
                        have w1 : IntKind.i64.wrap (- -(j : Int)) = (j : Int) := by rw [IntKind.wrap_i64]; omega
                        have hpos : ¬ (0 : Int) < -(j : Int) := by omega
                        clear hneg hz0
                        go_wp2_with fail
                        go_round
                        case rel => exact HNX.out
                        case measure => have := HQ.out; simp [intOf]; omega
                      · subst e1 e2
                        clear hz0
                        go_wp2_with fail
                        go_round
                        case rel => exact HNX.out
                        case measure => have := HQ.out; simp [intOf]; omega
                    · have HNX := Lib.hid (show ByR4 vs x (.int .i64 (op + 1)) (.int .i64 z) (.bool false) (.int .i64 ((t + 1 : Nat) : Int)) from ⟨t + 1, op + 1, z, false, by have := HQ.out; omega, rfl, rfl, rfl, rfl, HNM.out.other HZ.out HVZ.out hzl⟩)
                      have hne : ((z : Int) != last) = true := by simp [hzl]
                      have wo : IntKind.i64.wrap (op + 1) = op + 1 := by rw [IntKind.wrap_i64]; omega
                      clear hzl
                      rcases hsgn with ⟨hneg, e1, e2⟩ | ⟨hpos, e1, e2⟩
                      · subst e1 e2
                        have w1 : IntKind.i64.wrap (- -(j : Int)) = (j : Int) := by rw [IntKind.wrap_i64]; omega
                        have hpos : ¬ (0 : Int) < -(j : Int) := by omega
                        clear hneg hz0
                        go_wp2_with fail
                        go_round
                        case rel => exact HNX.out
                        case measure => have := HQ.out; simp [intOf]; omega
                      · subst e1 e2
                        clear hz0
                        go_wp2_with fail
                        go_round
                        case rel => exact HNX.out
                        case measure => have := HQ.out; simp [intOf]; omega
                  · subst h1
                    have HNX := Lib.hid (show ByR4 vs x (.int .i64 op) (.int .i64 last) (.bool true) (.int .i64 ((t + 1 : Nat) : Int)) from ⟨t + 1, op, last, true, by have := HQ.out; omega, rfl, rfl, rfl, rfl, NmI.hit HZ.out HVZ.out HNM.out⟩)
                    rcases hsgn with ⟨hneg, e1, e2⟩ | ⟨hpos, e1, e2⟩
                    · subst e1 e2
                      have w1 : IntKind.i64.wrap (- -(j : Int)) = (j : Int) := by rw [IntKind.wrap_i64]; omega
                      have hpos : ¬ (0 : Int) < -(j : Int) := by omega
                      clear hneg hz0
                      go_wp2_with fail
                      go_round
                      case rel => exact HNX.out
                      case measure => have := HQ.out; simp [intOf]; omega
                    · subst e1 e2
                      clear hz0
                      go_wp2_with fail
                      go_round
                      case rel => exact HNX.out
                      case measure => have := HQ.out; simp [intOf]; omega
                · cases hold with
                  | true =>
                    have hst : StC vs x := by
                      rcases HNM.out with ⟨_, h⟩ | ⟨h, _⟩
                      · exact .inl h
                      · cases h
                    have HNX := Lib.hid (show ByR3 w V L c Z (.int .i64 ((k + 1 : Nat) : Int)) (.bool more) wr from ⟨k + 1, more, vs, by have := HN.out; omega, rfl, rfl, HME.out, HBY.out.keep HX.out hst, hz1, HZ2.out⟩)
                    obtain ⟨bt, hbt⟩ : ∃ bt, decide ((t : Int) < (q : Int)) = bt := ⟨_, rfl⟩
                    clear hgo hst
                    have HMS := Lib.hid (show L.length - (intOf (.int .i64 ((k : Int) + 1))).toNat < L.length - (intOf (.int .i64 (k : Int))).toNat from by have := HN.out; simp [intOf]; omega)
                    cases bt with
                    | false =>
                      go_wp2_with fail
                      go_roundw
                      all_goals first
                        | exact ⟨HNX.out, HMS.out⟩
                        | exact HNX.out
                        | exact HMS.out
                    | true =>
                      go_wp2_with fail
                      go_roundw
                      all_goals first
                        | exact ⟨HNX.out, HMS.out⟩
                        | exact HNX.out
                        | exact HMS.out
                  | false =>
                    obtain rfl : t = q := by
                      rcases Nat.lt_or_ge t q with h | h
                      · exact absurd ⟨h, rfl⟩ hgo
                      · omega
                    clear hgo
                    have htk : x.take t = x := List.take_of_length_le (by rw [HQ.out]; exact Nat.le_refl _)
                    have hnm : (op = 0 ∧ ∀ n ∈ x, lv (va vs) n = -1) ∨ (op = 1 ∧ last ∈ x ∧ lv (va vs) last = 0 ∧ ∀ n ∈ x, lv (va vs) n = -1 ∨ n = last) ∨ (2 ≤ op ∧ StC vs x) := by
                      rcases HNM.out with ⟨h, _⟩ | ⟨_, _, h⟩
                      · cases h
                      · rw [htk] at h
                        rcases h with ⟨h1, _, h2⟩ | ⟨h1, _, h3, h4, ⟨h5, h6⟩ | ⟨h5, h6⟩⟩
                        · exact .inl ⟨h1, h2⟩
                        · exact .inr (.inl ⟨h5, h3, h4, h6⟩)
                        · exact .inr (.inr ⟨h5, .inr h6⟩)
                    clear htk
                    rcases hnm with ⟨h1, h2⟩ | ⟨h1, h2, h3, h4⟩ | ⟨h1, h2⟩
                    · subst h1
                      have HR := Lib.hid (HBY.out.conf HX.out HLX.out h2)
                      clear h2
                      go_wp2_with fail
                      go_ret
                      exact ⟨true, rfl, ⟨fun _ => HR.out, fun _ => rfl⟩, HME.out.2⟩
                    · subst h1
                      have hll := HLX.out last h2
                      obtain ⟨j, hj⟩ : ∃ j, last.natAbs = j := ⟨_, rfl⟩
                      have HUN := Lib.hid (And.intro (HBY.out.unit HX.out HLX.out h2 h3 h4 HLC.out) (zeros_set HBY.out.vlen hll h3))
                      have HJ := Lib.hid hj
                      obtain ⟨u, hu, cu, fu⟩ := HMEM.out vs wr HME.out HBY.out.vlen j (by rw [← hj]; exact hll.2)
                      have hjV : (j : Int) < (V : Int) + 1 := by have := hll.2; omega
                      have hj1 : 1 ≤ j := by have := hll.1; omega
                      clear h2 h3 h4 hu hll
                      by_cases hneg : last < 0
                      · skip
                        obtain rfl : last = -(j : Int) := by omega
                        have w1 : IntKind.i64.wrap (- -(j : Int)) = (j : Int) := by rw [IntKind.wrap_i64]; omega
                        have hpos : ¬ (0 : Int) < -(j : Int) := by omega
                        have HNX := Lib.hid (show ByR3 w V L c Z (.int .i64 ((k + 1 : Nat) : Int)) (.bool true) (wr.setCell ⟨g, j, none⟩ (.int .i64 (-1))) from ⟨k + 1, true, vs.set j (-1), by have := HN.out; omega, rfl, rfl, HSET.out vs wr HME.out j (-1), by
                          have := HUN.out.1
                          rw [HJ.out, show sg (-(j : Int)) = -1 from if_pos hneg] at this; exact this, by have := HUN.out.2; rw [HJ.out, show sg (-(j : Int)) = -1 from if_pos hneg] at this; omega, fun _ => by have := HUN.out.2; rw [HJ.out, show sg (-(j : Int)) = -1 from if_pos hneg] at this; omega⟩)
                        clear hneg hj
                        go_wp2_with fail
                        go_roundw
                        case rel => exact HNX.out
                        case measure => have := HN.out; simp [intOf]; omega
                      · skip
                        obtain rfl : last = (j : Int) := by omega
                        have hpos : (0 : Int) < (j : Int) := by omega
                        have HNX := Lib.hid (show ByR3 w V L c Z (.int .i64 ((k + 1 : Nat) : Int)) (.bool true) (wr.setCell ⟨g, j, none⟩ (.int .i64 1)) from ⟨k + 1, true, vs.set j 1, by have := HN.out; omega, rfl, rfl, HSET.out vs wr HME.out j 1, by
                          have := HUN.out.1
                          rw [HJ.out, show sg (j : Int) = 1 from if_neg hneg] at this; exact this, by have := HUN.out.2; rw [HJ.out, show sg (j : Int) = 1 from if_neg hneg] at this; omega, fun _ => by have := HUN.out.2; rw [HJ.out, show sg (j : Int) = 1 from if_neg hneg] at this; omega⟩)
                        clear hneg hj
                        go_wp2_with fail
                        go_roundw
                        case rel => exact HNX.out
                        case measure => have := HN.out; simp [intOf]; omega
                    · have HNX := Lib.hid (show ByR3 w V L c Z (.int .i64 ((k + 1 : Nat) : Int)) (.bool more) wr from ⟨k + 1, more, vs, by have := HN.out; omega, rfl, rfl, HME.out, HBY.out.keep HX.out h2, hz1, HZ2.out⟩)
                      have ho0 : ((op : Int) == 0) = false := by simp; omega
                      have ho1 : ((op : Int) == 1) = false := by simp; omega
                      clear h2
                      go_wp2_with fail
                      go_roundw
                      case rel => exact HNX.out
                      case measure => have := HN.out; simp [intOf]; omega
            · obtain rfl : k = n := by omega
              have hb0 := HBY.out
              rw [← HN.out] at hb0
              have HNX := Lib.hid (show ByR2 w V L c (.bool more) wr from ⟨more, vs, rfl, HME.out, hb0⟩)
              have HLT := Lib.hid (show ByM g V (.bool more) wr < Z + 1 from by
                cases more with
                | false => rw [byM_false]; omega
                | true => rw [byM_true (by have := HME.out.1; rw [HG.out] at this; exact this) hb0.vlen]; have := HZ2.out rfl; omega)
              clear hb0 hkn
              go_wp2_with fail
              go_roundw
              case rel => exact HNX.out
              case measure => rw [HZM.out]; exact HLT.out
end Go.Proofs.YtgchepkcjkhmmaaGreatDoor
