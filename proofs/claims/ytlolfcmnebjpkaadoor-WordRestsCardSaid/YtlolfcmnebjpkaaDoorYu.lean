/-
  WALKS of the laws on words: made.
  WALKS of the laws on words: wordsOf.
  WALKS of the laws on words: bitsOf.
-/
import Derived.Test.YtlolfcmnebjpkaaDoorYt
import Derived.Test.YtlolfcmnebjpkaaDoorLp
import Derived.Outline
namespace Go.Proofs.YtlolfcmnebjpkaaDoor
open Go.RowKit
theorem parts_new {w : World} {B : Nat} {A0 A1 : Option Addr} {c0 c1 : Nat} {xs ys : List Nat} (hx : Held w B A0 8 xs) (hy : Held w B A1 8 ys) :
    PartsAt (w.alloc (.cells #[.slice A0 8 c0, .slice A1 8 c1] 26)) B (some ⟨w.heap.size, 0, none⟩) [xs, ys] := by
  have hb : Below w.heap.size w (w.alloc (.cells #[.slice A0 8 c0, .slice A1 8 c1] 26)) := (Below.refl _ _).alloc (Nat.le_refl _) _
  have bk := Blk.new w 26 #[.slice A0 8 c0, .slice A1 8 c1]
  refine ⟨_, _, rfl, bk, .inr rfl, fun i zs hz => ?_⟩
  match i, hz with
  | 0, hz =>
    obtain rfl : xs = zs := by simpa using hz
    refine ⟨A0, c0, ?_, ?_⟩
    · rw [hx.1]; exact bk.cell 0
    · rw [hx.1]; exact hx.new hb
  | 1, hz =>
    obtain rfl : ys = zs := by simpa using hz
    refine ⟨A1, c1, ?_, ?_⟩
    · rw [hy.1]; exact bk.cell 1
    · rw [hy.1]; exact hy.new hb
set_option maxRecDepth 100000 in
set_option maxHeartbeats 1000000 in
theorem made_two {w : World} {B b LB : Nat} {gs : List Gm.Gate} (h : GA w B b gs) (hL : Lvls w LB) (hLB : LB ≤ w.heap.size) {A0 A1 : Option Addr} {c0 c1 k n : Nat} {xs ys : List Nat} (hx : Held w B A0 8 xs) (hy : Held w B A1 8 ys) (gx : AllHas gs xs) (gy : AllHas gs ys)
    (hn : gs.length ≤ 99000) {s : ByteArray} (hs : TwoOp s) {f : List Bool → List Bool} {g : List Bool → Bool}
    (HI : ∀ (W : World) (A0 A1 : Option Addr) (c0 c1 : Nat), GA W B b gs → Held W B A0 8 xs → Held W B A1 8 ys → Calls Tryd.prog 56 #[.agg #[.pointer (some ⟨b, 0, none⟩)], .string s, .slice A0 8 c0, .slice A1 8 c1] W (WL W B b gs k n f g)) :
    Calls Tryd.prog 31 #[.pointer (some ⟨b, 0, none⟩), .string s, .slice A0 8 c0, .slice A1 8 c1] w (WG w B b gs k n f) := by
  have hb : Below w.heap.size w (w.alloc (.cells #[.slice A0 8 c0, .slice A1 8 c1] 26)) := (Below.refl _ _).alloc (Nat.le_refl _) _
  have C := Lib.hid (of_two (c := 2) (h.new hb) (hL.below hb hLB) (by simp; omega) (parts_new (c0 := c0) (c1 := c1) hx hy) hx.1 hy.1 gx gy hn hs HI)
  have HB := Lib.hid hb
  clear h hL hx hy gx gy hs HI hb
  go_enter Tryd.func31, Tryd.ntmps31
  go_wp2_with fail
  refine C.out.mono ?_
  rintro e w2 ⟨A, c, gs', outs, last, rfl, h1, h2, h3, h4, h5⟩
  have HG := Lib.hid h1
  have HC := Lib.hid ((Chg.of_new (S := GT B) HB.out).trans h2)
  have HO := Lib.hid (own_base h3 HB.out.size)
  have HM := Lib.hid h4
  clear h1 h2 h3 h4 h5
  go_wp2
  go_ret
  exact ⟨A, c, gs', outs, rfl, HG.out, HC.out, HO.out, HM.out⟩
theorem two_plus : TwoOp ⟨#[43]⟩ := ⟨by decide +kernel, by decide +kernel, by decide +kernel, by decide +kernel, by decide +kernel, by decide +kernel, by decide +kernel, by decide +kernel, by decide +kernel, by decide +kernel, by decide +kernel, by decide +kernel, by decide +kernel, by decide +kernel⟩
theorem two_times : TwoOp ⟨#[42]⟩ := ⟨by decide +kernel, by decide +kernel, by decide +kernel, by decide +kernel, by decide +kernel, by decide +kernel, by decide +kernel, by decide +kernel, by decide +kernel, by decide +kernel, by decide +kernel, by decide +kernel, by decide +kernel, by decide +kernel⟩
theorem two_quo : TwoOp ⟨#[47]⟩ := ⟨by decide +kernel, by decide +kernel, by decide +kernel, by decide +kernel, by decide +kernel, by decide +kernel, by decide +kernel, by decide +kernel, by decide +kernel, by decide +kernel, by decide +kernel, by decide +kernel, by decide +kernel, by decide +kernel⟩
theorem two_rest : TwoOp ⟨#[109, 111, 100]⟩ := ⟨by decide +kernel, by decide +kernel, by decide +kernel, by decide +kernel, by decide +kernel, by decide +kernel, by decide +kernel, by decide +kernel, by decide +kernel, by decide +kernel, by decide +kernel, by decide +kernel, by decide +kernel, by decide +kernel⟩
section
variable {w : World} {B b LB : Nat} {gs : List Gm.Gate} {A0 A1 : Option Addr} {c0 c1 : Nat} {xs ys : List Nat}
theorem made_plus (h : GA w B b gs) (hL : Lvls w LB) (hLB : LB ≤ w.heap.size) (hx : Held w B A0 8 xs) (hy : Held w B A1 8 ys) (gx : AllHas gs xs) (gy : AllHas gs ys) (hn : gs.length ≤ 80000) :
    Calls Tryd.prog 31 #[.pointer (some ⟨b, 0, none⟩), .string ⟨#[43]⟩, .slice A0 8 c0, .slice A1 8 c1] w (WG w B b gs 1800 8 (fun inp => Wp.sums (evs inp gs xs) (evs inp gs ys) false)) := by
  refine (made_two h hL hLB hx hy gx gy (by omega) two_plus (fun W A0 A1 c0 c1 hg hx hy => ints_plus (m := 7) hg hx hy gx gy (by show gs.length + 1795 ≤ 88000; omega) (by omega))).mono ?_
  rintro e w' ⟨A, c, gs', outs, h0, h1, h2, h3, h4⟩
  exact ⟨A, c, gs', outs, h0, h1, h2, h3, h4.to (by show 1795 ≤ 1800; omega) fun _ => rfl⟩
theorem made_times (h : GA w B b gs) (hL : Lvls w LB) (hLB : LB ≤ w.heap.size) (hx : Held w B A0 8 xs) (hy : Held w B A1 8 ys) (gx : AllHas gs xs) (gy : AllHas gs ys) (hn : gs.length ≤ 80000) :
    Calls Tryd.prog 31 #[.pointer (some ⟨b, 0, none⟩), .string ⟨#[42]⟩, .slice A0 8 c0, .slice A1 8 c1] w (WG w B b gs 1800 8 (fun inp => Wp.timesB (evs inp gs xs) (evs inp gs ys))) := by
  refine (made_two h hL hLB hx hy gx gy (by omega) two_times (fun W A0 A1 c0 c1 hg hx hy => ints_times (m := 7) hg hx hy gx gy (by show gs.length + 1795 ≤ 88000; omega) (by omega))).mono ?_
  rintro e w' ⟨A, c, gs', outs, h0, h1, h2, h3, h4⟩
  exact ⟨A, c, gs', outs, h0, h1, h2, h3, h4.to (by show 1795 ≤ 1800; omega) fun _ => rfl⟩
end
end Go.Proofs.YtlolfcmnebjpkaaDoor
namespace Go.Proofs.YtlolfcmnebjpkaaDoor
open Go.RowKit
/-- so many inputs and nothing else -/
def inps (n : Nat) : List Gm.Gate := List.replicate n ⟨0, 0, true⟩
theorem inps_length (n : Nat) : (inps n).length = n := by unfold inps; simp
theorem inps_succ (n : Nat) : Gm.inpG (inps n) = (inps (n + 1), 2 * n + 2) := by
  unfold Gm.inpG; rw [inps_length]; unfold inps; rw [List.replicate_succ']
theorem inps_ins (n : Nat) : Gm.ins (inps n) = n := by
  induction n with
  | zero => rfl
  | succ n ih => show Gm.ins (⟨0, 0, true⟩ :: inps n) = _; simp only [Gm.ins, ih, if_true]; omega
/-- the first k literals of the i-th word -/
def wordTo (i k : Nat) : List Nat := (List.range k).map fun j => 2 * (8 * i + j) + 2
def wordL (i : Nat) : List Nat := wordTo i 8
theorem wordTo_succ (i k : Nat) : wordTo i (k + 1) = wordTo i k ++ [2 * (8 * i + k) + 2] := by unfold wordTo; rw [List.range_succ, List.map_append]; rfl
theorem wordTo_length (i k : Nat) : (wordTo i k).length = k := by unfold wordTo; simp
theorem wordL_length (i : Nat) : (wordL i).length = 8 := wordTo_length i 8
theorem wordL_has {i n : Nat} (h : 8 * i + 8 ≤ n) : AllHas (inps n) (wordL i) := fun x hx => by
  unfold wordL wordTo at hx
  obtain ⟨j, hj, rfl⟩ := List.mem_map.1 hx
  have := List.mem_range.1 hj
  unfold Gm.has; rw [inps_length]; omega
theorem infoRow_ : (Tryd.prog.info? 26).map (fun i => (i.zero, i.size, i.bytes)) = some (some (.slice none 0 0), 1, 24) := by kernel_rfl
def WoI (W : World) (B b i : Nat) (ov kv : Value) (wr : World) : Prop :=
  ∃ k : Nat, k ≤ 8 ∧ kv = .int .i64 k ∧ (∃ A c, ov = .slice A k c) ∧ GA wr B b (inps (8 * i + k)) ∧ Chg (GT B) W wr ∧ wr.ownsRow W.heap.size 33 1 ov k (natVals (wordTo i k))
def RowsAt (w : World) (B : Nat) (rows : List Value) : Prop := ∀ i v, rows[i]? = some v → ∃ Ai ci, v = .slice Ai 8 ci ∧ Held w B Ai 8 (wordL i)
def WoR (W : World) (B b many : Nat) (ov iv : Value) (wr : World) : Prop :=
  ∃ i rows, i ≤ many ∧ iv = .int .i64 (i : Nat) ∧ (∃ A c, ov = .slice A i c) ∧ GA wr B b (inps (8 * i)) ∧ Chg (GT B) W wr ∧ wr.ownsRow W.heap.size 26 1 ov i rows ∧ RowsAt wr B rows
/-- words that were made -/
def WoP (w : World) (B b many : Nat) (e : Ending) (w' : World) : Prop :=
  ∃ A c, e = .returned (.tuple #[.slice A many c, .bool true]) ∧ GA w' B b (inps (8 * many)) ∧ Chg (GT B) w w' ∧ PartsAt w' B A ((List.range many).map wordL)
theorem parts_of_own {w : World} {base B many c : Nat} {A : Option Addr} {rows : List Value} (h : w.ownsRow base 26 1 (.slice A many c) many rows) (hr : RowsAt w B rows) (hm : 0 < many) : PartsAt w B A ((List.range many).map wordL) := by
  obtain ⟨g, cap, hv, _, hlt⟩ := h.form hm
  have hA : A = some ⟨g, 0, none⟩ := by injection hv
  subst hA
  have hc := h.cells (g := g) rfl
  have hl : rows.length = many := by have := h.1; omega
  rcases h.2 with ⟨h0, _⟩ | ⟨g', cap', cur, hv', _, hh, _⟩
  · cases h0
  · have hg : g = g' := by simp only [Value.slice.injEq, Option.some.injEq, Addr.mk.injEq, and_true] at hv'; exact hv'.1
    subst hg
    refine ⟨_, _, rfl, hh, .inr rfl, fun i xs hx => ?_⟩
    rw [List.getElem?_map] at hx
    cases hi : (List.range many)[i]? with
    | none => rw [hi] at hx; cases hx
    | some j =>
      obtain ⟨h1, h2⟩ := List.getElem?_eq_some_iff.1 hi
      simp at h1 h2
      subst h2
      rw [hi] at hx
      obtain rfl : wordL i = xs := by simpa using hx
      obtain ⟨v, hv⟩ : ∃ v, rows[i]? = some v := ⟨_, List.getElem?_eq_getElem (by omega)⟩
      obtain ⟨Ai, ci, rfl, hH⟩ := hr i v hv
      exact ⟨Ai, ci, by rw [wordL_length]; exact hc i _ hv, by rw [wordL_length]; exact hH⟩
set_option maxRecDepth 100000 in
set_option maxHeartbeats 4000000 in
theorem wordsOf_any {w : World} {B b : Nat} (h : GA w B b []) {many : Nat} (hm : 0 < many) (hm2 : many ≤ 10) :
    Calls Tryd.prog 30 #[.pointer (some ⟨b, 0, none⟩), .int .i64 (many : Nat)] w (WoP w B b many) := by
  obtain ⟨i0, hi0, hz0, hz1, hz2⟩ := info_parts infoLit_
  have HIN := Lib.hid (show _ ∧ _ ∧ _ ∧ _ from ⟨hi0, hz0, hz1, hz2⟩)
  obtain ⟨ir, hr0, hy0, hy1, hy2⟩ := info_parts infoRow_
  have HIR := Lib.hid (show _ ∧ _ ∧ _ ∧ _ from ⟨hr0, hy0, hy1, hy2⟩)
  have HB := Lib.hid h.low
  have HG := Lib.hid h
  clear h hi0 hz0 hz1 hz2 hr0 hy0 hy1 hy2
  go_enter Tryd.func30, Tryd.ntmps30
  go_wp2_with fail
  go_loopw [6, 7] (fun ov iv wr => WoR w B b many ov iv wr) (fun _ iv _ => many - (intOf iv).toNat)
  case atStart => exact ⟨0, [], Nat.zero_le _, rfl, ⟨none, 0, rfl⟩, HG.out, Chg.refl _ _, World.ownsRow_nil _ _ _ _, fun i v hv => by simp at hv⟩
  case round =>
    obtain ⟨i, rows, hi, rfl, ⟨Ao, co, rfl⟩, hg, hch, hown, hrows⟩ := hrel
    by_cases him : i < many
    · obtain ⟨wo, rfl⟩ : ∃ wo : World, wo = wr := ⟨_, rfl⟩
      have HG1 := Lib.hid hg
      have HCH := Lib.hid hch
      have HO := Lib.hid hown
      have HRS := Lib.hid hrows
      clear hg hch hown hrows
      go_wp2_with fail
      go_loopw [8, 9] (fun ov kv wx => WoI wo B b i ov kv wx) (fun _ kv _ => 8 - (intOf kv).toNat)
      case atStart => exact ⟨0, by omega, rfl, ⟨none, 0, rfl⟩, HG1.out, Chg.refl _ _, World.ownsRow_nil _ _ _ _⟩
      case round =>
        obtain ⟨k, hk, rfl, ⟨Ai, ci, rfl⟩, hg, hch, hown⟩ := hrel
        by_cases hk8 : k < 8
        · have C := input_ga hg (by rw [inps_length]; omega)
          rw [inps_succ] at C
          have C := Lib.hid C
          have HCI := Lib.hid hch
          have HOI := Lib.hid hown
          clear hg hch hown
          go_wp2_with fail
          refine C.out.mono ?_
          rintro e w2 ⟨rfl, h1, h2⟩
          have HG2 := Lib.hid h1
          have HC2 := Lib.hid (HCI.out.trans h2)
          have HO2 := Lib.hid (own_gt HOI.out h2)
          have hs2 : wo.heap.size ≤ w2.heap.size := HC2.out.size
          clear h1 h2
          go_wp2_with (at_builtin; refine wpList_append_sl _ rfl (.tmp 28) (.tmp 30) _ rfl wo.heap.size 33 i0 _ 1 8 Tryd.underlying26 HIN.out.1 HIN.out.2.1 HIN.out.2.2.1 HIN.out.2.2.2 rfl (by omega) _ k _ rfl (HO2.out.alloc _) (w2.heap.size + 1) (some ⟨w2.heap.size, 0, none⟩) 1 1 [.int .i64 ((2 * (8 * i + k) + 2 : Nat) : Int)] rfl (reads_new rfl (by omega) rfl) (ints_one (by simp)) (le_maxLen (by omega)) (le_bytes (by omega) (by omega)) (by simp; omega) ?_; intro A5 c5 w5 hown5 hg5)
          have hg6 : (w2.alloc (.cells #[.int .i64 ((2 * (8 * i + k) + 2 : Nat) : Int)] 33)).grownBy w5 (Value.slice Ai k ci).ownBlock := hg5
          have HG5 := Lib.hid (HG2.out.row (row_chg HO2.out hg6))
          have HC5 := Lib.hid (gt_grown HC2.out HO2.out (Nat.le_refl _) hg6)
          have HO5 := Lib.hid (show w5.ownsRow wo.heap.size 33 1 (.slice A5 (k + 1) c5) (k + 1) (natVals (wordTo i (k + 1))) by rw [wordTo_succ, natVals_append]; exact hown5)
          clear hown5 hg5 hg6
          go_wp2_with fail
          go_roundw
          case rel => exact ⟨k + 1, by omega, by go_num, ⟨_, _, rfl⟩, HG5.out, HC5.out, HO5.out⟩
          case measure => simp [intOf]; omega
        · obtain rfl : k = 8 := by omega
          have HGX := Lib.hid hg
          have HCX := Lib.hid hch
          have HOX := Lib.hid hown
          have HOO := Lib.hid (show wr.ownsRow w.heap.size 26 1 (.slice Ao i co) i rows from own_chg HO.out hch fun g cur _ _ hs => by rcases hs.2 with e | e | e <;> simp [elemOf] at e)
          have hsx : wo.heap.size ≤ wr.heap.size := hch.size
          have hsw : w.heap.size ≤ wo.heap.size := HCH.out.size
          clear hg hch hown
          go_wp2_with (at_builtin; refine wpList_append_sl _ rfl (.tmp 32) (.tmp 34) _ rfl w.heap.size 26 ir _ 1 24 Tryd.underlying69 HIR.out.1 HIR.out.2.1 HIR.out.2.2.1 HIR.out.2.2.2 rfl (by omega) _ i _ rfl (HOO.out.alloc _) (wr.heap.size + 1) (some ⟨wr.heap.size, 0, none⟩) 1 1 [.slice Ai 8 ci] rfl (reads_new rfl (by omega) rfl) (fun u hu => by rw [List.mem_singleton.1 hu]; rfl) (le_maxLen (by omega)) (le_bytes (by omega) (by omega)) (by simp; omega) ?_; intro A5 c5 w5 hown5 hg5)
          have hg6 : (wr.alloc (.cells #[.slice Ai 8 ci] 26)).grownBy w5 (Value.slice Ao i co).ownBlock := hg5
          have hcr : Chg (fun k o => B ≤ k ∧ elemOf o = some 26) wr w5 := by
            refine ((Chg.refl _ wr).alloc _).grown hg6 fun k o' hk ho' => ?_
            have hge := (HOO.out.lt k hk).1
            rcases HOO.out.2 with ⟨h0, _⟩ | ⟨g', cap, cur, hv, _, hh, _⟩
            · rw [h0] at hk; simp [Value.ownBlock] at hk
            · have : k = g' := by rw [hv] at hk; simpa [Value.ownBlock, eq_comm] using hk
              subst this
              rw [hh] at ho'
              injection ho' with ho'
              subst ho'
              exact ⟨Nat.le_trans HB.out hge, rfl⟩
          have HG5 := Lib.hid (show GA w5 B b (inps (8 * (i + 1))) from HGX.out.chg hcr fun k o _ hs => by rw [hs.2]; exact ⟨by simp, by simp, by simp⟩)
          have HC5 := Lib.hid (gt_grown (HCH.out.trans HCX.out) HOO.out (Nat.le_refl _) hg6)
          have HO5 := Lib.hid hown5
          have HR5 := Lib.hid (show RowsAt w5 B (rows ++ [.slice Ai 8 ci]) from fun j v hv => by
            have hrl : rows.length = i := by have := HO.out.1; omega
            rcases Gm.getElem?_snoc hv with hv | ⟨rfl, rfl⟩
            · obtain ⟨Aj, cj, rfl, hH⟩ := HRS.out j v hv
              exact ⟨Aj, cj, rfl, (hH.gt HCX.out).chg hcr fun k o hs => ⟨hs.1, by rw [hs.2]; simp⟩⟩
            · rw [hrl]
              exact ⟨Ai, ci, rfl, (Held.of_own (B := B) HOX.out).chg hcr fun k o hs => ⟨hs.1, by rw [hs.2]; simp⟩⟩)
          clear hown5 hg5 hg6 hcr
          go_wp2_with fail
          go_roundw
          case rel => exact ⟨i + 1, _, by omega, by go_num, ⟨_, _, rfl⟩, HG5.out, HC5.out, HO5.out, HR5.out⟩
          case measure => simp [intOf]; omega
    · obtain rfl : i = many := by omega
      have HG1 := Lib.hid hg
      have HCH := Lib.hid hch
      have HO := Lib.hid hown
      have HRS := Lib.hid hrows
      clear hg hch hown hrows
      go_wp2
      go_ret2
      exact ⟨Ao, co, rfl, HG1.out, HCH.out, parts_of_own HO.out HRS.out hm⟩
end Go.Proofs.YtlolfcmnebjpkaaDoor
namespace Go.Proofs.YtlolfcmnebjpkaaDoor
open Go.RowKit
/-- bits of a number, the lowest first -/
def bitsN : Nat → Nat → List Bool
  | 0, _ => []
  | k + 1, m => decide (m % 2 = 1) :: bitsN k (m / 2)
theorem bitsN_length : ∀ (k m : Nat), (bitsN k m).length = k
  | 0, _ => rfl
  | k + 1, m => by simp [bitsN, bitsN_length k]
theorem bitsN_snoc : ∀ (k m : Nat), bitsN (k + 1) m = bitsN k m ++ [decide (m / 2 ^ k % 2 = 1)]
  | 0, m => by simp [bitsN]
  | k + 1, m => by
    have ih := bitsN_snoc k (m / 2)
    have e : m / 2 / 2 ^ k = m / 2 ^ (k + 1) := by rw [Nat.div_div_eq_div_mul, Nat.pow_succ, Nat.mul_comm 2]
    rw [e] at ih
    show decide (m % 2 = 1) :: bitsN (k + 1) (m / 2) = decide (m % 2 = 1) :: bitsN k (m / 2) ++ _
    rw [ih]; rfl
theorem bitsN_nu : ∀ (k m : Nat), Wp.nu (bitsN k m) = m % 2 ^ k
  | 0, m => by simp [bitsN, Wp.nu]; omega
  | k + 1, m => by
    simp only [bitsN, Wp.nu, bitsN_nu k]
    have h1 : Wp.bit (decide (m % 2 = 1)) = m % 2 := by
      unfold Wp.bit
      have : m % 2 = 0 ∨ m % 2 = 1 := by omega
      rcases this with h | h <;> simp [h]
    rw [h1, Nat.pow_succ, Nat.mul_comm (2 ^ k) 2, Nat.mod_mul]
/-- what an int is modulo 256 -/
def byteM (x : Int) : Nat := (x % 256).toNat
theorem byteM_lt (x : Int) : byteM x < 256 := by unfold byteM; omega
def bitsL (l : List Int) : List Bool := (l.map fun x => bitsN 8 (byteM x)).flatten
theorem bitsL_snoc {l : List Int} {i : Nat} {x : Int} (hx : l[i]? = some x) : bitsL (l.take (i + 1)) = bitsL (l.take i) ++ bitsN 8 (byteM x) := by
  unfold bitsL; rw [Gm.take_one hx]; simp
theorem bitsL_length (l : List Int) : (bitsL l).length = 8 * l.length := by
  induction l with
  | nil => rfl
  | cons x l ih =>
    have : bitsL (x :: l) = bitsN 8 (byteM x) ++ bitsL l := rfl
    rw [this, List.length_append, bitsN_length, ih, List.length_cons]; omega
def BoI (W : World) (l : List Int) (i : Nat) (x : Int) (ov nv kv : Value) (wx : World) : Prop :=
  ∃ k m : Nat, k ≤ 8 ∧ kv = .int .i64 k ∧ m = byteM x / 2 ^ k ∧ nv = .int .i64 m ∧ (∃ A c, ov = .slice A (8 * i + k) c) ∧ Below W.heap.size W wx ∧ wx.ownsRow W.heap.size 4 1 ov (8 * i + k) (boolVals (bitsL (l.take i) ++ bitsN k (byteM x)))
def BoR (W : World) (l : List Int) (ov iv : Value) (wx : World) : Prop :=
  ∃ i : Nat, i ≤ l.length ∧ iv = .int .i64 i ∧ (∃ A c, ov = .slice A (8 * i) c) ∧ Below W.heap.size W wx ∧ wx.ownsRow W.heap.size 4 1 ov (8 * i) (boolVals (bitsL (l.take i)))
/-- bits that were made -/
def BoP (w : World) (n : Nat) (bs : List Bool) (e : Ending) (w' : World) : Prop :=
  ∃ A c, e = .returned (.slice A n c) ∧ w'.ownsRow w.heap.size 4 1 (.slice A n c) n (boolVals bs) ∧ Below w.heap.size w w'
theorem infoBool_ : (Tryd.prog.info? 4).map (fun i => (i.zero, i.size, i.bytes)) = some (some (.bool false), 1, 1) := by kernel_rfl
theorem tmod_byte (x : Int) : (x.tmod 256 < 0 → x.tmod 256 + 256 = (byteM x : Int)) ∧ (0 ≤ x.tmod 256 → x.tmod 256 = (byteM x : Int)) := by
  unfold byteM
  rcases Int.lt_or_le x 0 with h | h
  · have e : x.tmod 256 = -((-x) % 256) := by
      rw [← Int.tmod_eq_emod_of_nonneg (by omega), Int.neg_tmod, Int.neg_neg]
    omega
  · have e : x.tmod 256 = x % 256 := Int.tmod_eq_emod_of_nonneg h
    omega
set_option maxRecDepth 100000 in
set_option maxHeartbeats 4000000 in
theorem bitsOf_any {w : World} {A : Option Addr} {c : Nat} {l : List Int} (h : Reads w w.heap.size 1 A l.length (litVals l)) (hw : ∀ x ∈ l, (Lit.int .i64 x).wf = true) (hl : l.length ≤ 10) :
    Calls Tryd.prog 32 #[.slice A l.length c] w (BoP w (8 * l.length) (bitsL l)) := by
  obtain ⟨i0, hi0, hz0, hz1, hz2⟩ := info_parts infoBool_
  have HIN := Lib.hid (show _ ∧ _ ∧ _ ∧ _ from ⟨hi0, hz0, hz1, hz2⟩)
  have HR := Lib.hid h
  have HW := Lib.hid hw
  clear h hw hi0 hz0 hz1 hz2
  go_enter Tryd.func32, Tryd.ntmps32
  go_wp2_with fail
  go_loopw [3, 4] (fun ov iv wr => BoR w l ov iv wr) (fun _ iv _ => l.length - (intOf iv).toNat)
  case atStart => exact ⟨0, Nat.zero_le _, rfl, ⟨none, 0, rfl⟩, Below.refl _ _, World.ownsRow_nil _ _ _ _⟩
  case round =>
    obtain ⟨i, hi, rfl, ⟨Ao, co, rfl⟩, hb, hown⟩ := hrel
    obtain ⟨wo, rfl⟩ : ∃ wo : World, wo = wr := ⟨_, rfl⟩
    have HB := Lib.hid hb
    have HO := Lib.hid hown
    clear hb hown
    by_cases hil : i < l.length
    · obtain ⟨x, hx⟩ : ∃ x, l[i]? = some x := ⟨_, List.getElem?_eq_getElem hil⟩
      obtain ⟨ad, hA, hadb, hc⟩ := HR.out.2 (by omega)
      subst hA
      have cx := (HB.out.cell (p := ad.add i) (by rw [block_of_add]; exact hadb)).trans (hc i (.int .i64 x) (by unfold litVals; simp [hx]))
      obtain ⟨t, ht⟩ : ∃ t, x.tmod 256 = t := ⟨_, rfl⟩
      have htb := tmod_byte x
      rw [ht] at htb
      obtain ⟨m0, hm0⟩ : ∃ m0, byteM x = m0 := ⟨_, rfl⟩
      have hm256 : m0 < 256 := by rw [← hm0]; exact byteM_lt x
      rw [hm0] at htb
      have HM0 := Lib.hid hm0
      have key : (t < 0 ∧ t + 256 = (m0 : Int)) ∨ t = (m0 : Int) := by
        rcases Int.lt_or_le t 0 with h | h
        · exact .inl ⟨h, htb.1 h⟩
        · exact .inr (htb.2 h)
      clear hc htb hm0
      have HX := Lib.hid hx
      clear hx
      rcases key with ⟨hneg, he⟩ | he
      · have hlo : -256 ≤ t := by omega
        have hhi : t < 256 := by omega
        have HE := Lib.hid he
        clear he
        go_wp2_with fail
        rw [HE.out]
        clear ht
        go_loopw [3, 5, 6] (fun ov nv kv wx => BoI w l i x ov nv kv wx) (fun _ _ kv _ => 8 - (intOf kv).toNat)
        case atStart =>
          refine ⟨0, m0, by omega, rfl, by rw [HM0.out]; simp, rfl, ⟨Ao, co, rfl⟩, HB.out, ?_⟩
          simpa [bitsN] using HO.out
        case round =>
          obtain ⟨k, m, hk, rfl, hm, rfl, ⟨Ai, ci, rfl⟩, hb, hown⟩ := hrel
          have HB1 := Lib.hid hb
          have HO1 := Lib.hid hown
          have HM := Lib.hid hm
          have hm256' : m < 256 := by
            have := Nat.div_le_self (byteM x) (2 ^ k)
            have := byteM_lt x
            omega
          have hsw : w.heap.size ≤ wr.heap.size := hb.size
          clear hb hown hm
          by_cases hk8 : k < 8
          · obtain ⟨bb, hbb⟩ : ∃ bb, ((m : Int) % 2 == 1) = bb := ⟨_, rfl⟩
            have HBB := Lib.hid (show decide (byteM x / 2 ^ k % 2 = 1) = bb by
              rw [← HM.out, ← hbb]; rw [Bool.eq_iff_iff]; simp; omega)
            go_wp2_with (at_builtin; refine wpList_append_sl _ rfl (.tmp 26) (.tmp 30) _ rfl w.heap.size 4 i0 _ 1 1 Tryd.underlying24 HIN.out.1 HIN.out.2.1 HIN.out.2.2.1 HIN.out.2.2.2 rfl (by omega) _ (8 * i + k) _ rfl (HO1.out.alloc _) (wr.heap.size + 1) (some ⟨wr.heap.size, 0, none⟩) 1 1 [.bool bb] rfl (reads_new rfl (by omega) rfl) (fun u hu => by rw [List.mem_singleton.1 hu]; rfl) (le_maxLen (by omega)) (le_bytes (by omega) (by omega)) (by simp; omega) ?_; intro A5 c5 w5 hown5 hg5)
            have hg6 : (wr.alloc (.cells #[.bool bb] 4)).grownBy w5 (Value.slice Ai (8 * i + k) ci).ownBlock := hg5
            have HB5 := Lib.hid (own_grown_below HB1.out HO1.out (Nat.le_refl _) hg6)
            have HO5 := Lib.hid (show w5.ownsRow w.heap.size 4 1 (.slice A5 (8 * i + (k + 1)) c5) (8 * i + (k + 1)) (boolVals (bitsL (l.take i) ++ bitsN (k + 1) (byteM x))) by
              rw [bitsN_snoc, HBB.out, ← List.append_assoc]
              unfold boolVals at hown5 ⊢
              rw [List.map_append]; exact hown5)
            clear hown5 hg5 hg6 hbb
            go_wp2_with fail
            go_roundw
            case rel => exact ⟨k + 1, m / 2, by omega, by go_num, by rw [HM.out, Nat.div_div_eq_div_mul, Nat.pow_succ], by go_num, ⟨_, _, rfl⟩, HB5.out, HO5.out⟩
            case measure => simp [intOf]; omega
          · obtain rfl : k = 8 := by omega
            go_wp2_with fail
            go_roundw
            case rel =>
              refine ⟨i + 1, by omega, by go_num, ⟨_, _, rfl⟩, HB1.out, ?_⟩
              rw [bitsL_snoc HX.out]; exact HO1.out
            case measure => simp [intOf]; omega
      · subst he
        go_wp2_with fail
        clear ht
        go_loopw [3, 5, 6] (fun ov nv kv wx => BoI w l i x ov nv kv wx) (fun _ _ kv _ => 8 - (intOf kv).toNat)
        case atStart =>
          refine ⟨0, m0, by omega, rfl, by rw [HM0.out]; simp, rfl, ⟨Ao, co, rfl⟩, HB.out, ?_⟩
          simpa [bitsN] using HO.out
        case round =>
          obtain ⟨k, m, hk, rfl, hm, rfl, ⟨Ai, ci, rfl⟩, hb, hown⟩ := hrel
          have HB1 := Lib.hid hb
          have HO1 := Lib.hid hown
          have HM := Lib.hid hm
          have hm256' : m < 256 := by
            have := Nat.div_le_self (byteM x) (2 ^ k)
            have := byteM_lt x
            omega
          have hsw : w.heap.size ≤ wr.heap.size := hb.size
          clear hb hown hm
          by_cases hk8 : k < 8
          · obtain ⟨bb, hbb⟩ : ∃ bb, ((m : Int) % 2 == 1) = bb := ⟨_, rfl⟩
            have HBB := Lib.hid (show decide (byteM x / 2 ^ k % 2 = 1) = bb by
              rw [← HM.out, ← hbb]; rw [Bool.eq_iff_iff]; simp; omega)
            go_wp2_with (at_builtin; refine wpList_append_sl _ rfl (.tmp 26) (.tmp 30) _ rfl w.heap.size 4 i0 _ 1 1 Tryd.underlying24 HIN.out.1 HIN.out.2.1 HIN.out.2.2.1 HIN.out.2.2.2 rfl (by omega) _ (8 * i + k) _ rfl (HO1.out.alloc _) (wr.heap.size + 1) (some ⟨wr.heap.size, 0, none⟩) 1 1 [.bool bb] rfl (reads_new rfl (by omega) rfl) (fun u hu => by rw [List.mem_singleton.1 hu]; rfl) (le_maxLen (by omega)) (le_bytes (by omega) (by omega)) (by simp; omega) ?_; intro A5 c5 w5 hown5 hg5)
            have hg6 : (wr.alloc (.cells #[.bool bb] 4)).grownBy w5 (Value.slice Ai (8 * i + k) ci).ownBlock := hg5
            have HB5 := Lib.hid (own_grown_below HB1.out HO1.out (Nat.le_refl _) hg6)
            have HO5 := Lib.hid (show w5.ownsRow w.heap.size 4 1 (.slice A5 (8 * i + (k + 1)) c5) (8 * i + (k + 1)) (boolVals (bitsL (l.take i) ++ bitsN (k + 1) (byteM x))) by
              rw [bitsN_snoc, HBB.out, ← List.append_assoc]
              unfold boolVals at hown5 ⊢
              rw [List.map_append]; exact hown5)
            clear hown5 hg5 hg6 hbb
            go_wp2_with fail
            go_roundw
            case rel => exact ⟨k + 1, m / 2, by omega, by go_num, by rw [HM.out, Nat.div_div_eq_div_mul, Nat.pow_succ], by go_num, ⟨_, _, rfl⟩, HB5.out, HO5.out⟩
            case measure => simp [intOf]; omega
          · obtain rfl : k = 8 := by omega
            go_wp2_with fail
            go_roundw
            case rel =>
              refine ⟨i + 1, by omega, by go_num, ⟨_, _, rfl⟩, HB1.out, ?_⟩
              rw [bitsL_snoc HX.out]; exact HO1.out
            case measure => simp [intOf]; omega
    · obtain rfl : i = l.length := by omega
      have ho := HO.out
      rw [List.take_length] at ho
      have HO2 := Lib.hid ho
      clear ho
      go_wp2
      go_ret
      exact ⟨Ao, co, rfl, HO2.out, HB.out⟩
end Go.Proofs.YtlolfcmnebjpkaaDoor
