/-
  THE WALK of the law GraphEvals.
-/
import Derived.Test.YtlolfcmnebjpkaaDoorGx
import Derived.Outline
namespace Go.Proofs.YtlolfcmnebjpkaaDoor
open Go.RowKit

theorem gevals_long {w : World} {A A2 A3 : Option Addr} {c c2 c3 l m n : Nat} (h : 60 < l ∨ 60 < n ∨ 100 < m) :
    Calls Tryd.prog 7 #[.slice A l c, .slice A2 m c2, .slice A3 n c3] w (LPost w) := by
  have CE := Lib.hid (empty_any w)
  have key : decide ((60 : Int) < (l : Int)) = true ∨ (decide ((60 : Int) < (l : Int)) = false ∧ decide ((60 : Int) < (n : Int)) = true) ∨ (decide ((60 : Int) < (l : Int)) = false ∧ decide ((60 : Int) < (n : Int)) = false ∧ decide ((100 : Int) < (m : Int)) = true) := by
    by_cases h1 : 60 < l
    · exact .inl (decide_eq_true (by omega))
    · by_cases h2 : 60 < n
      · exact .inr (.inl ⟨decide_eq_false (by omega), decide_eq_true (by omega)⟩)
      · exact .inr (.inr ⟨decide_eq_false (by omega), decide_eq_false (by omega), decide_eq_true (by omega)⟩)
  clear h
  rcases key with e0 | ⟨e0, e1⟩ | ⟨e0, e1, e2⟩
  all_goals
    go_enter Tryd.func7, Tryd.ntmps7
    go_wp2_with fail
    refine CE.out.mono ?_
    rintro e w1 ⟨rfl, hb⟩
    have HB := Lib.hid hb
    clear hb
    go_wp2
    go_ret
    exact ⟨rfl, HB.out⟩
/-- an append onto a row of literals or of bools leaves a graph and its model -/
theorem Two.grown {W w w1 : World} {B g m n base e : Nat} {gs : List Gm.Gate} {v : Value} {xs : List Value} {o : Obj} (h : Two W B g m gs w) (he : e ≠ 68 ∧ e ≠ 98 ∧ e ≠ 53 ∧ e ≠ 57)
    (ho : w.ownsRow base e 1 v n xs) (hb : W.heap.size ≤ base) (hg : (w.alloc o).grownBy w1 v.ownBlock) : Two W B g m gs w1 := by
  have hc : Chg (fun _ o => elemOf o = some e) w w1 := by
    refine ((Chg.refl _ w).alloc o).grown hg fun k o' hk ho' => ?_
    rcases ho.2 with ⟨rfl, _⟩ | ⟨g', cap, cur, rfl, _, hh, _⟩
    · simp [Value.ownBlock] at hk
    · simp only [Value.ownBlock, Option.some.injEq] at hk
      subst hk
      rw [hh] at ho'
      injection ho' with ho'
      subst ho'
      rfl
  obtain ⟨h1, h2, h3, h4⟩ := he
  refine ⟨h.ga.chg hc fun k o' _ hs => ?_, h.ma.chgS hc fun k o' _ hs => ?_, (h.bl.alloc h.bl.size o).trans (below_grown hg (by have := h.bl.size; simp; omega) fun g' e' => by have := ownBlock_ge ho g' e'; omega)⟩
  · rw [hs]; exact ⟨by simpa using h1, by simpa using h2, by simp⟩
  · rw [hs]; exact ⟨by simpa using h3, by simpa using h4⟩
/-- is all right so far: as many inputs as there are, and the first k are literals -/
def rOf (inp : List Bool) (gs : List Gm.Gate) (ask : List Int) (k : Nat) : Bool := ((inp.length : Int) == (Gm.ins gs : Int)) && (ask.take k).all (hasB gs.length)
theorem rOf_succ {inp : List Bool} {gs : List Gm.Gate} {ask : List Int} {k : Nat} {x : Int} (hx : ask[k]? = some x) : rOf inp gs ask (k + 1) = (rOf inp gs ask k && hasB gs.length x) := by
  unfold rOf; rw [Gm.take_one hx, List.all_append, Bool.and_assoc]; simp
def AskR (W : World) (B g m : Nat) (inp : List Bool) (gs : List Gm.Gate) (ask : List Int) (base : Nat) (lv rv iv : Value) (wr : World) : Prop :=
  ∃ k : Nat, k ≤ ask.length ∧ iv = .int .i64 k ∧ (∃ r, rOf inp gs ask k = r ∧ rv = .bool r) ∧ Two W B g m gs wr ∧ base ≤ wr.heap.size ∧ ∃ A c, lv = .slice A k c ∧ wr.ownsRow base 33 1 lv k (litVals (ask.take k))
theorem infoLit : (Tryd.prog.info? 33).map (fun i => (i.zero, i.size, i.bytes)) = some (some (.int .i64 0), 1, 8) := by kernel_rfl
theorem askr_next {W w1 : World} {B g m base : Nat} {inp : List Bool} {gs : List Gm.Gate} {ask : List Int} {k : Nat} {x : Int} {A : Option Addr} {c : Nat} {r : Bool} (hx : ask[k]? = some x) (hr : rOf inp gs ask (k + 1) = r) (ht : Two W B g m gs w1) (hbs : base ≤ w1.heap.size)
    (ho : w1.ownsRow base 33 1 (.slice A (k + 1) c) (k + 1) (litVals (ask.take k) ++ [.int .i64 x])) (iv : Value) (hi : iv = .int .i64 ((k + 1 : Nat) : Int)) : AskR W B g m inp gs ask base (.slice A (k + 1) c) (.bool r) iv w1 := by
  have hl := (List.getElem?_eq_some_iff.1 hx).1
  refine ⟨k + 1, by omega, hi, ⟨r, hr, rfl⟩, ht, hbs, A, c, rfl, ?_⟩
  rw [Gm.take_one hx]
  unfold litVals at *
  rw [List.map_append]
  exact ho
def EvN (w : World) (bs : List Bool) (n : Nat) (e : Ending) (w' : World) : Prop :=
  ∃ A c, e = .returned (.tuple #[.slice A n c, .nilIface]) ∧ w'.ownsRow w.heap.size 4 1 (.slice A n c) n (boolVals bs) ∧ Below w.heap.size w w'
theorem evg_n {w : World} {bs : List Bool} {n : Nat} (h : bs.length = n) {e : Ending} {w' : World} (k : EvG w bs e w') : EvN w bs n e w' := by subst h; exact k
def LRl (W : World) (B g m : Nat) (gs : List Gm.Gate) (W9 : World) (n : Nat) (iv : Value) (wx : World) : Prop :=
  ∃ k : Nat, k ≤ n ∧ iv = .int .i64 k ∧ Two W B g m gs wx ∧ Below W9.heap.size W9 wx
set_option maxRecDepth 100000 in
set_option maxHeartbeats 4000000 in
theorem gevals_short {w : World} {ea : Nat → Addr} {BE : Nat} (hE : Errs w ea BE) (hBE : BE ≤ w.heap.size) {l : List Mk} (hl : l.length ≤ 60) (hf : ∀ m ∈ l, m.fits) {A A2 A3 : Option Addr} {c c2 c3 : Nat} (hr : Reads w w.heap.size 4 A l.length (mkVals l))
    {inp : List Bool} (hil : inp.length ≤ 100) (hri : Reads w w.heap.size 1 A2 inp.length (boolVals inp)) {ask : List Int} (hal : ask.length ≤ 60) (haw : ∀ a ∈ ask, (Lit.int .i64 a).wf = true) (hra : Reads w w.heap.size 1 A3 ask.length (litVals ask)) :
    Calls Tryd.prog 7 #[.slice A l.length c, .slice A2 inp.length c2, .slice A3 ask.length c3] w (LPost w) := by
  have e0 : decide ((60 : Int) < (l.length : Int)) = false := decide_eq_false (by omega)
  have e1 : decide ((60 : Int) < (ask.length : Int)) = false := decide_eq_false (by omega)
  have e2 : decide ((100 : Int) < (inp.length : Int)) = false := decide_eq_false (by omega)
  have CE := Lib.hid (empty_any w)
  have HE := Lib.hid hE
  have HBE := Lib.hid hBE
  have HF := Lib.hid hf
  have HR := Lib.hid hr
  have HL := Lib.hid hl
  have HRI := Lib.hid hri
  have HRA := Lib.hid hra
  have HAW := Lib.hid haw
  have HLN := Lib.hid (And.intro hil hal)
  clear hE hBE hf hr hl hil hri hal haw hra
  go_enter Tryd.func7, Tryd.ntmps7
  go_wp2_with fail
  refine CE.out.mono ?_
  rintro e w1 ⟨rfl, hb⟩
  have CB := Lib.hid (build_any (c := c) (HE.out.mem hb HBE.out) (Nat.le_trans HBE.out hb.size) HL.out HF.out ((HR.out.below hb).more hb.size))
  have HB := Lib.hid hb
  clear hb
  go_wp2_with fail
  refine CB.out.mono ?_
  rintro e w2 ⟨rfl, gs, hgl, hg, hm, hb2⟩
  have hgs : gs.length ≤ 180 := by have := HL.out; omega
  obtain ⟨Am, cm, c0, c1, _⟩ := hm.row
  have HT := Lib.hid (show Two w w1.heap.size w1.heap.size (w1.heap.size + 1) gs w2 from ⟨hg, hm, HB.out.trans (hb2.mono HB.out.size)⟩)
  have hsz : w.heap.size ≤ w2.heap.size := HT.out.bl.size
  clear hg hm hb2 hgl c0
  obtain ⟨i0, hi0, hz0, hz1, hz2⟩ := info_parts infoLit
  have HIN := Lib.hid (show _ ∧ _ ∧ _ ∧ _ from ⟨hi0, hz0, hz1, hz2⟩)
  clear hi0 hz0 hz1 hz2
  go_wp2_with fail
  go_loopw [11, 12, 13] (fun lv rv iv wr => AskR w w1.heap.size w1.heap.size (w1.heap.size + 1) inp gs ask w2.heap.size lv rv iv wr) (fun _ _ iv _ => ask.length - (intOf iv).toNat)
  case atStart => exact ⟨0, Nat.zero_le _, rfl, ⟨_, by unfold rOf; simp, rfl⟩, HT.out, Nat.le_refl _, none, 0, rfl, World.ownsRow_nil _ _ _ _⟩
  case round =>
    clear c1
    obtain ⟨k, hk, rfl, ⟨r, hr, rfl⟩, ht, hbs, Al, cl, rfl, hown⟩ := hrel
    have HT2 := Lib.hid ht
    have HO := Lib.hid hown
    have HRR := Lib.hid hr
    clear ht hown hr
    by_cases hkl : k < ask.length
    · obtain ⟨x, hx⟩ : ∃ x, ask[k]? = some x := ⟨_, List.getElem?_eq_getElem hkl⟩
      obtain ⟨ad, hA, hadb, hcell⟩ := HRA.out.2 (by omega)
      subst hA
      have cx := (HT2.out.bl.cell (p := ad.add k) (by rw [block_of_add]; exact hadb)).trans (hcell k _ (litVals_at hx))
      have HWX := Lib.hid (HAW.out x (List.mem_of_getElem? hx))
      obtain ⟨vx, hvx⟩ : ∃ v, v = hasB gs.length x := ⟨_, rfl⟩
      have HVX := Lib.hid hvx
      have HRS := Lib.hid (show rOf inp gs ask (k + 1) = (r && vx) by rw [rOf_succ hx, HRR.out, hvx])
      have HX := Lib.hid hx
      have hk60 : ask.length ≤ 60 := HLN.out.2
      have hcell' := Lib.hid hcell
      have hadb' := hadb
      clear hx hvx hcell hadb
      cases r with
      | false =>
        go_wp2_with (at_builtin; refine wpList_append_sl _ rfl (.tmp 58) (.tmp 63) _ rfl w2.heap.size 33 i0 _ 1 8 Tryd.underlying26 HIN.out.1 HIN.out.2.1 HIN.out.2.2.1 HIN.out.2.2.2 rfl (by omega) _ k _ rfl (HO.out.alloc _) (wr.heap.size + 1) (some ⟨wr.heap.size, 0, none⟩) 1 1 [.int .i64 x] rfl (reads_new rfl (by omega) rfl) (ints_one (by simp)) (le_maxLen (by omega)) (le_bytes (by omega) (by omega)) (by simp; omega) ?_; intro A1 c1 w5 hown1 hg1)
        have hg2 : (wr.alloc (.cells #[.int .i64 x] 33)).grownBy w5 (Value.slice Al k cl).ownBlock := hg1
        have HT5 := Lib.hid (HT2.out.grown ⟨by decide, by decide, by decide, by decide⟩ HO.out hsz hg2)
        have hs5 : w2.heap.size ≤ w5.heap.size := by have := hg2.size; simp at this; omega
        have HO5 := Lib.hid hown1
        clear hown1 hg1 hg2
        go_roundw
        case rel => exact askr_next HX.out HRS.out HT5.out hs5 HO5.out _ (by go_num)
        case measure => simp [intOf]; omega
      | true =>
        go_wp2_with (at_builtin; refine wpList_append_sl _ rfl (.tmp 58) (.tmp 63) _ rfl w2.heap.size 33 i0 _ 1 8 Tryd.underlying26 HIN.out.1 HIN.out.2.1 HIN.out.2.2.1 HIN.out.2.2.2 rfl (by omega) _ k _ rfl (HO.out.alloc _) (wr.heap.size + 1) (some ⟨wr.heap.size, 0, none⟩) 1 1 [.int .i64 x] rfl (reads_new rfl (by omega) rfl) (ints_one (by simp)) (le_maxLen (by omega)) (le_bytes (by omega) (by omega)) (by simp; omega) ?_; intro A1 c1 w5 hown1 hg1; have hg2 : (wr.alloc (.cells #[.int .i64 x] 33)).grownBy w5 (Value.slice Al k cl).ownBlock := hg1; have HT5 := Lib.hid (HT2.out.grown ⟨by decide, by decide, by decide, by decide⟩ HO.out hsz hg2); have hs5 : w2.heap.size ≤ w5.heap.size := (by have := hg2.size; simp at this; omega); have cx5 := (HT5.out.bl.cell (p := ad.add k) (by rw [block_of_add]; exact hadb')).trans (hcell'.out k _ (litVals_at HX.out)); have HO5 := Lib.hid hown1; clear hown1 hg1 hg2)
        have CX := mhas_at HT5.out.ma x HWX.out
        rw [← HVX.out] at CX
        have CX := Lib.hid CX
        refine CX.out.mono ?_
        rintro e w' ⟨rfl, rfl⟩
        go_wp2_with fail
        go_roundw
        case rel => exact askr_next HX.out HRS.out HT5.out hs5 HO5.out _ (by go_num)
        case measure => simp [intOf]; omega
    · obtain rfl : k = ask.length := by omega
      obtain ⟨iB, hi0, hz0, hz1, hz2⟩ := info_parts infoBool
      have HIB := Lib.hid (show _ ∧ _ ∧ _ ∧ _ from ⟨hi0, hz0, hz1, hz2⟩)
      have HBO := Lib.hid (show ∀ u ∈ boolVals inp, u.oneCell' = true from fun u hu => by obtain ⟨b, _, rfl⟩ := List.mem_map.1 hu; rfl)
      have HRW := Lib.hid (HRI.out.below HT2.out.bl)
      have hin : inp.length ≤ 100 := HLN.out.1
      have hak : ask.length ≤ 60 := HLN.out.2
      have ho := HO.out
      rw [List.take_length] at ho
      have HOA := Lib.hid ho
      clear hi0 hz0 hz1 hz2 ho
      go_wp2_with (at_builtin; refine wpList_append_sl _ rfl (.tmp 76) (.tmp 77) _ rfl wr.heap.size 4 iB _ 1 1 Tryd.underlying24 HIB.out.1 HIB.out.2.1 HIB.out.2.2.1 HIB.out.2.2.2 rfl (by omega) _ 0 [] rfl (World.ownsRow_nil _ _ _ _) w.heap.size A2 inp.length c2 (boolVals inp) rfl HRW.out HBO.out (le_maxLen (by omega)) (le_bytes (by omega) (by omega)) (Nat.le_refl _) ?_; rw [Nat.zero_add]; intro A8 c8 w8 hown8 hg8)
      have hb8 : Below wr.heap.size wr w8 := below_grown (r := none) hg8 (Nat.le_refl _) (fun g e => by cases e)
      have HT8 := Lib.hid (HT2.out.new hb8)
      have hR1 : Reads w8 w8.heap.size 1 A8 inp.length (boolVals inp) := Reads.of_own hown8
      have HR1 := Lib.hid hR1
      have hR2 : Reads w8 wr.heap.size 1 Al ask.length (litVals ask) := (Reads.of_own HOA.out).below hb8
      have HR2 := Lib.hid hR2
      have hs8 : wr.heap.size ≤ w8.heap.size := hb8.size
      have HE8 := Lib.hid (HE.out.mem HT8.out.bl HBE.out)
      have hbe8 := Nat.le_trans HBE.out HT8.out.bl.size
      clear hown8 hg8 hb8 hR1 hR2
      by_cases hgood : inp.length = Gm.ins gs ∧ ∀ a ∈ ask, hasB gs.length a = true
      · have hrt : r = true := by
          rw [← HRR.out]
          unfold rOf
          rw [List.take_length]
          simp only [hgood.1, beq_self_eq_true, Bool.true_and, List.all_eq_true]
          exact hgood.2
        subst hrt
        obtain ⟨xs, hxs⟩ : ∃ xs : List Nat, xs.map (fun (x : Nat) => (x : Int)) = ask := ⟨ask.map Int.toNat, by
          rw [List.map_map]
          conv => rhs; rw [← List.map_id ask]
          exact List.map_congr_left fun a ha => by
            have h := hgood.2 a ha
            unfold hasB at h
            simp only [Bool.and_eq_true, decide_eq_true_eq] at h
            simp only [Function.comp, id_eq]
            omega⟩
        have hxl : xs.length = ask.length := by rw [← hxs, List.length_map]
        have hxh : ∀ a ∈ xs, Gm.has gs a := fun a ha => by
          obtain ⟨y, hy, hh⟩ := has_of (hgood.2 (a : Int) (by rw [← hxs]; exact List.mem_map.2 ⟨a, ha, rfl⟩))
          have : y = a := by omega
          rw [← this]; exact hh
        have CG : Calls Tryd.prog 28 #[.pointer (some ⟨w1.heap.size, 0, none⟩), .slice A8 inp.length c8, .slice Al ask.length cl] w8 (EvN w8 (xs.map (Gm.ev inp gs)) ask.length) := by
          have h := geval_any (c := c8) (c2 := cl) HT8.out.ga hgood.1 HR1.out (Nat.le_refl _) (l := xs) (by rw [hxs, hxl]; exact HR2.out) hs8 (by omega) hxh
          rw [hxl] at h
          exact h.mono fun _ _ k => evg_n (by rw [List.length_map, hxl]) k
        have HCG := Lib.hid CG
        have HXS := Lib.hid hxs
        have HXL := Lib.hid hxl
        have HXH := Lib.hid hxh
        have HIG := Lib.hid hgood.1
        clear hgood hxs hxl hxh CG hbe8
        refine HCG.out.mono ?_
        rintro e w9 ⟨A9, c9, rfl, hown9, hb9⟩
        have HO9 := Lib.hid hown9
        have HT9 := Lib.hid (HT8.out.new hb9)
        have hs9 := hb9.size
        clear hown9 hb9
        go_wp2_with fail
        go_loopw [17] (fun iv wx => LRl w w1.heap.size w1.heap.size (w1.heap.size + 1) gs w9 ask.length iv wx) (fun iv _ => ask.length - (intOf iv).toNat)
        case atStart => exact ⟨0, Nat.zero_le _, rfl, HT9.out, Below.refl _ _⟩
        case round =>
          obtain ⟨k, hk, rfl, ht, hbx⟩ := hrel
          have HTX := Lib.hid ht
          have HBX := Lib.hid hbx
          clear ht hbx
          by_cases hkl : k < ask.length
          · obtain ⟨nx, hnx⟩ : ∃ nx, xs[k]? = some nx := ⟨_, List.getElem?_eq_getElem (by have := HXL.out; omega)⟩
            have hx : ask[k]? = some (nx : Int) := by rw [← HXS.out]; simp [hnx]
            have hnh := HXH.out nx (List.mem_of_getElem? hnx)
            obtain ⟨ad, hA, hadb, hcell⟩ := HRA.out.2 (by omega)
            subst hA
            have cx := (HTX.out.bl.cell (p := ad.add k) (by rw [block_of_add]; exact hadb)).trans (hcell k _ (litVals_at hx))
            obtain ⟨bb, hbb⟩ : ∃ bb, bb = Gm.ev inp gs nx := ⟨_, rfl⟩
            obtain ⟨blk, c', hv, hrc⟩ := row_cells HO9.out (by omega)
            have hA9 : A9 = some ⟨blk, 0, none⟩ := by simp only [Value.slice.injEq] at hv; exact hv.1
            subst hA9
            have q := hrc k (.bool bb) (by unfold boolVals; rw [List.map_map, List.getElem?_map, hnx, hbb]; rfl)
            have hql := World.block_lt_of_cell? w9 _ q
            have cv := (HBX.out.cell (p := ⟨blk, k, none⟩) hql).trans q
            have hlt9 : blk < wr.heap.size := Nat.lt_of_lt_of_le hql HBX.out.size
            have hlta : ad.block < wr.heap.size := Nat.lt_of_lt_of_le hadb HTX.out.bl.size
            have CM : ∀ n, Calls Tryd.prog 29 #[.pointer (some ⟨w1.heap.size + 1, 0, none⟩), .slice A2 inp.length c2, .int .i64 nx] (wr.drewN n) fun e w' => e = .returned (.bool bb) ∧ Below (wr.drewN n).heap.size (wr.drewN n) w' := fun n => by
              rw [hbb]
              exact meval_any (HTX.out.ma.drewN n) HTX.out.ga.wf (by rw [HIG.out]; exact Nat.le_refl _) ((HRI.out.below HTX.out.bl).drewN n) HTX.out.bl.size (by omega) hnh
            have HCM := Lib.hid CM
            clear hnx hx hnh hcell hbb hv hrc q hql CM
            go_wp2_with fail
            go_region_with (go_at_call 29; refine (HCM.out _).mono ?_; rintro e w5 ⟨rfl, hb5⟩; have cv5 := (hb5.cell (p := ⟨blk, k, none⟩) hlt9).trans cv; have HB5 := Lib.hid hb5; clear hb5)
            all_goals
              go_wp2_with fail
              go_roundw
              case rel => exact ⟨k + 1, by omega, by go_num, (HTX.out.drewN 1).new HB5.out, (below_drewN HBX.out 1).trans (HB5.out.mono HBX.out.size)⟩
              case measure => simp [intOf]; omega
          · obtain rfl : k = ask.length := by omega
            go_wp2
            go_ret
            exact ⟨rfl, HTX.out.bl⟩
      · have hrf : r = false := by
          cases hrr : r with
          | false => rfl
          | true =>
            exfalso
            apply hgood
            have h := HRR.out
            rw [hrr] at h
            unfold rOf at h
            rw [List.take_length] at h
            simp only [Bool.and_eq_true, beq_iff_eq, List.all_eq_true] at h
            exact ⟨by omega, h.2⟩
        subst hrf
        have CV : Calls Tryd.prog 28 #[.pointer (some ⟨w1.heap.size, 0, none⟩), .slice A8 inp.length c8, .slice Al ask.length cl] w8 (EvB w8 ea) := by
          by_cases hlen : inp.length = Gm.ins gs
          · have h := geval_bad (A := A8) (c := c8) (c2 := cl) HE8.out HT8.out.ga HR2.out (by omega) HAW.out (fun h => hgood ⟨hlen, h⟩)
            rwa [← hlen] at h
          · exact geval_len HE8.out HT8.out.ga hlen
        have HCV := Lib.hid CV
        have CC : ∀ j, Calls Tryd.prog 13 #[errV ea 3, .int .i64 3] (w8.drewN j) fun e w' => e = .returned (.bool true) ∧ Below (w8.drewN j).heap.size (w8.drewN j) w' := fun j => coded_sent (HE.out.mem (below_drewN HT8.out.bl j) HBE.out) hbe8 (k := 3) (by omega) (by omega)
        have HC := Lib.hid CC
        clear hgood CV CC hbe8
        refine HCV.out.mono ?_
        rintro e w9 ⟨rfl, j, rfl⟩
        go_wp2_with fail
        refine (HC.out j).mono ?_
        rintro e w4 ⟨rfl, hb4⟩
        have HB4 := Lib.hid hb4
        clear hb4
        go_wp2
        go_ret
        exact ⟨rfl, (below_drewN HT8.out.bl j).trans (HB4.out.mono HT8.out.bl.size)⟩
end Go.Proofs.YtlolfcmnebjpkaaDoor
