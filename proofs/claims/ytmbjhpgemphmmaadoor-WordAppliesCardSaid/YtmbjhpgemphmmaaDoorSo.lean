/-
  WALKS of package word: the maker's operators of two bools.
  word.Of: what its last three stores leave.
-/
import Derived.Test.YtmbjhpgemphmmaaDoorYc
import Derived.Test.YtmbjhpgemphmmaaDoorHq
import Derived.Deep.DeepCutAuto
import Derived.Test.YtmbjhpgemphmmaaDoorYt
import Derived.Test.YtmbjhpgemphmmaaDoorSd
namespace Go.Proofs.YtmbjhpgemphmmaaDoor
open Go.RowKit
set_option maxHeartbeats 1000000 in
theorem bools_and {w : World} {B b : Nat} {gs : List Gm.Gate} (h : GA w B b gs) (hn : gs.length < 99997) {x y : Nat} (hx : Gm.has gs x) (hy : Gm.has gs y) :
    Calls Tryd.prog 47 #[.agg #[.pointer (some ⟨b, 0, none⟩)], .string ⟨#[97, 110, 100]⟩, .int .i64 x, .int .i64 y] w (RP w B b (Gm.andG gs x y)) := by
  obtain ⟨W1, hW1⟩ : ∃ W1, W1 = w.alloc (.cells #[.pointer (some ⟨b, 0, none⟩)] 106) := ⟨_, rfl⟩
  have hb : Below w.heap.size w W1 := by rw [hW1]; exact (Below.refl _ _).alloc (Nat.le_refl _) _
  have hc : Chg (GT B) w W1 := by rw [hW1]; exact (Chg.refl _ _).alloc _
  have k1 : Blk W1 w.heap.size 106 #[.pointer (some ⟨b, 0, none⟩)] := by rw [hW1]; exact Blk.new w _ _
  have c0 := k1.cell 0
  have C1 := Lib.hid (mkr_and (h.new hb) (by omega) hx hy)
  have HC := Lib.hid hc
  have HW := Lib.hid hW1
  clear h hb hc hW1 hn hx hy k1
  go_enter Tryd.func47, Tryd.ntmps47
  go_upto_region 1 with fail
  rw [← HW.out]
  go_wp2_with fail
  refine C1.out.mono ?_
  rintro e w1 ⟨rfl, h1, h2⟩
  have H1 := Lib.hid h1
  have H2 := Lib.hid (HC.out.trans h2)
  clear h1 h2
  go_wp2_with fail
  go_ret
  exact ⟨rfl, H1.out, H2.out⟩
set_option maxHeartbeats 1000000 in
theorem bools_or {w : World} {B b : Nat} {gs : List Gm.Gate} (h : GA w B b gs) (hn : gs.length < 99997) {x y : Nat} (hx : Gm.has gs x) (hy : Gm.has gs y) :
    Calls Tryd.prog 47 #[.agg #[.pointer (some ⟨b, 0, none⟩)], .string ⟨#[111, 114]⟩, .int .i64 x, .int .i64 y] w (RP w B b (Gm.orG gs x y)) := by
  obtain ⟨W1, hW1⟩ : ∃ W1, W1 = w.alloc (.cells #[.pointer (some ⟨b, 0, none⟩)] 106) := ⟨_, rfl⟩
  have hb : Below w.heap.size w W1 := by rw [hW1]; exact (Below.refl _ _).alloc (Nat.le_refl _) _
  have hc : Chg (GT B) w W1 := by rw [hW1]; exact (Chg.refl _ _).alloc _
  have k1 : Blk W1 w.heap.size 106 #[.pointer (some ⟨b, 0, none⟩)] := by rw [hW1]; exact Blk.new w _ _
  have c0 := k1.cell 0
  have C1 := Lib.hid (mkr_or (h.new hb) (by omega) hx hy)
  have HC := Lib.hid hc
  have HW := Lib.hid hW1
  clear h hb hc hW1 hn hx hy k1
  go_enter Tryd.func47, Tryd.ntmps47
  go_upto_region 1 with fail
  rw [← HW.out]
  go_wp2_with fail
  refine C1.out.mono ?_
  rintro e w1 ⟨rfl, h1, h2⟩
  have H1 := Lib.hid h1
  have H2 := Lib.hid (HC.out.trans h2)
  clear h1 h2
  go_wp2_with fail
  go_ret
  exact ⟨rfl, H1.out, H2.out⟩
set_option maxHeartbeats 1000000 in
theorem bools_xor {w : World} {B b : Nat} {gs : List Gm.Gate} (h : GA w B b gs) (hn : gs.length < 99997) {x y : Nat} (hx : Gm.has gs x) (hy : Gm.has gs y) :
    Calls Tryd.prog 47 #[.agg #[.pointer (some ⟨b, 0, none⟩)], .string ⟨#[120, 111, 114]⟩, .int .i64 x, .int .i64 y] w (RP w B b (Gm.xorG gs x y)) := by
  obtain ⟨W1, hW1⟩ : ∃ W1, W1 = w.alloc (.cells #[.pointer (some ⟨b, 0, none⟩)] 106) := ⟨_, rfl⟩
  have hb : Below w.heap.size w W1 := by rw [hW1]; exact (Below.refl _ _).alloc (Nat.le_refl _) _
  have hc : Chg (GT B) w W1 := by rw [hW1]; exact (Chg.refl _ _).alloc _
  have k1 : Blk W1 w.heap.size 106 #[.pointer (some ⟨b, 0, none⟩)] := by rw [hW1]; exact Blk.new w _ _
  have c0 := k1.cell 0
  have C1 := Lib.hid (mkr_xor (h.new hb) (by omega) hx hy)
  have HC := Lib.hid hc
  have HW := Lib.hid hW1
  clear h hb hc hW1 hn hx hy k1
  go_enter Tryd.func47, Tryd.ntmps47
  go_upto_region 1 with fail
  rw [← HW.out]
  go_wp2_with fail
  refine C1.out.mono ?_
  rintro e w1 ⟨rfl, h1, h2⟩
  have H1 := Lib.hid h1
  have H2 := Lib.hid (HC.out.trans h2)
  clear h1 h2
  go_wp2_with fail
  go_ret
  exact ⟨rfl, H1.out, H2.out⟩
attribute [local irreducible] wpMv
set_option maxRecDepth 100000 in
set_option maxHeartbeats 2000000 in
theorem bools_imp {w : World} {B b : Nat} {gs : List Gm.Gate} (h : GA w B b gs) (hn : gs.length < 99997) {x y : Nat} (hx : Gm.has gs x) (hy : Gm.has gs y) :
    Calls Tryd.prog 47 #[.agg #[.pointer (some ⟨b, 0, none⟩)], .string ⟨#[61, 62]⟩, .int .i64 x, .int .i64 y] w (RP w B b (Gm.orG gs (Gm.notL x) y)) := by
  obtain ⟨W1, hW1⟩ : ∃ W1, W1 = w.alloc (.cells #[.pointer (some ⟨b, 0, none⟩)] 106) := ⟨_, rfl⟩
  have hb : Below w.heap.size w W1 := by rw [hW1]; exact (Below.refl _ _).alloc (Nat.le_refl _) _
  have hc : Chg (GT B) w W1 := by rw [hW1]; exact (Chg.refl _ _).alloc _
  have k1 : Blk W1 w.heap.size 106 #[.pointer (some ⟨b, 0, none⟩)] := by rw [hW1]; exact Blk.new w _ _
  have hx9 : x ≤ 1000000 := by have := h.len; unfold Gm.has at hx; omega
  have C1 := Lib.hid (mkr_or (w := W1.drew) ((h.new hb).drewN 1) (by omega) (Gm.has_not hx) hy)
  have HC := Lib.hid hc
  have HW := Lib.hid hW1
  have HK := Lib.hid k1
  have HH := Lib.hid (h.new hb).low
  have HL := Lib.hid h.low
  clear h hb hc hW1 hn hx hy k1
  go_enter Tryd.func47, Tryd.ntmps47
  go_upto_region 1 with fail
  rw [← HW.out]
  go_wp2_with fail
  refine wp_region_mv (S := fun w' => w'.cell? ⟨w.heap.size, 0, none⟩ = some (.pointer (some ⟨b, 0, none⟩))) 5 [.f 0, .f 1, .f 2, .f 3, .t 4, .t 5] (by kernel_rfl) (by kernel_rfl) (by kernel_rfl) (HK.out.drew.cell 0) ?_
  iterate 2 (refine mv_take _ _ rfl (by kernel_rfl) (fun wv hv => by have hv1 := hv; clear hv; go_simp; try with_reducible rfl) ?_; simp only [Act.put, List.getElem_toArray, List.getElem_cons_zero, List.getElem_cons_succ, List.setIfInBounds_toArray, List.set_cons_zero, List.set_cons_succ])
  refine mv_quiet _ _ _ _ rfl (by kernel_rfl) (fun wv hv => by go_simp; try with_reducible rfl) (fun wv hv => not_any x wv (by omega)) ?_
  simp only [Act.put, List.getElem_toArray, List.getElem_cons_zero, List.getElem_cons_succ, List.setIfInBounds_toArray, List.set_cons_zero, List.set_cons_succ]
  iterate 1 (refine mv_take _ _ rfl (by kernel_rfl) (fun wv hv => by go_simp; try with_reducible rfl) ?_; simp only [Act.put, List.getElem_toArray, List.getElem_cons_zero, List.getElem_cons_succ, List.setIfInBounds_toArray, List.set_cons_zero, List.set_cons_succ])
  refine mv_act _ rfl (fun K hK => ?_)
  go_simp
  refine C1.out.mono ?_
  rintro e w1 ⟨rfl, h1, h2⟩
  have HK1 := Lib.hid (show w1.cell? ⟨w.heap.size, 0, none⟩ = some (.pointer (some ⟨b, 0, none⟩)) from by
    have hk := h2.keep _ _ HK.out.drew (fun hs => by rcases hs.2 with e | e | e <;> simp [elemOf] at e)
    exact Blk.cell (t := 106) hk 0)
  have H1 := Lib.hid h1
  have H2 := Lib.hid (HC.out.drew.trans h2)
  clear h1 h2
  go_simp
  refine hK _ _ (.inr (HK1.out)) ?_
  clear hK K
  refine mv_act _ rfl (fun K hK => ?_)
  go_simp
  go_simp
  refine hK _ _ (.inl rfl) ?_
  clear hK K
  refine mv_nil ?_
  go_wp2_with fail
  go_ret
  exact ⟨rfl, H1.out, H2.out⟩
end Go.Proofs.YtmbjhpgemphmmaaDoor
namespace Go.Proofs.YtmbjhpgemphmmaaDoor
open Go.RowKit
/-- three stores, one behind the other -/
structure T3 (w3 W7 W8 W9 : World) (o : Nat) (v6 v7 v8 r l : Value) : Prop where
  c6 : w3.cell? ⟨o, 0, none⟩ = some v6
  f6 : w3.frozen? ⟨o, 0, none⟩ = false
  c7 : (w3.setCell ⟨o, 0, none⟩ r).cell? ⟨o + 1, 0, none⟩ = some v7
  f7 : (w3.setCell ⟨o, 0, none⟩ r).frozen? ⟨o + 1, 0, none⟩ = false
  c8 : ((w3.setCell ⟨o, 0, none⟩ r).setCell ⟨o + 1, 0, none⟩ l).cell? ⟨o + 2, 0, none⟩ = some v8
  f8 : ((w3.setCell ⟨o, 0, none⟩ r).setCell ⟨o + 1, 0, none⟩ l).frozen? ⟨o + 2, 0, none⟩ = false
  e6 : Blk W9 o 28 #[r]
  e7 : Blk W9 (o + 1) 29 #[l]
  e8 : Blk W9 (o + 2) 31 #[.nilIface]
  k7 : ∀ p : Addr, p.block < o ∨ o + 3 ≤ p.block → W7.cell? p = w3.cell? p
  k8 : ∀ p : Addr, p.block < o ∨ o + 3 ≤ p.block → W8.cell? p = w3.cell? p
  k9 : ∀ p : Addr, p.block < o ∨ o + 3 ≤ p.block → W9.cell? p = w3.cell? p
  ga : ∀ B b gs, GA w3 B b gs → GA W9 B b gs
  ch : ∀ B w, Chg (GT B) w w3 → w.heap.size ≤ o → Chg (GT B) w W9
  ow : ∀ base n A c xs, w3.ownsRow base 29 1 (.slice A n c) n xs → o + 3 ≤ base → W9.ownsRow base 29 1 (.slice A n c) n xs
theorem tail3 {w3 W7 W8 W9 : World} {o : Nat} {v6 v7 v8 r l : Value} (b6 : Blk w3 o 28 #[v6]) (b7 : Blk w3 (o + 1) 29 #[v7]) (b8 : Blk w3 (o + 2) 31 #[v8])
    (h7 : W7 = w3.setCell ⟨o, 0, none⟩ r) (h8 : W8 = W7.setCell ⟨o + 1, 0, none⟩ l) (h9 : W9 = W8.setCell ⟨o + 2, 0, none⟩ .nilIface) : T3 w3 W7 W8 W9 o v6 v7 v8 r l := by
  subst h7 h8 h9
  have n01 : o ≠ o + 1 := by omega
  have n02 : o ≠ o + 2 := by omega
  have n12 : o + 1 ≠ o + 2 := by omega
  have a6 := b6.set_ 0 r
  have a7 := b7.far (p := ⟨o, 0, none⟩) n01.symm r
  have a8 := b8.far (p := ⟨o, 0, none⟩) n02.symm r
  have d6 := a6.far (p := ⟨o + 1, 0, none⟩) n01 l
  have d7 := a7.set_ 0 l
  have d8 := a8.far (p := ⟨o + 1, 0, none⟩) n12.symm l
  have e6 := d6.far (p := ⟨o + 2, 0, none⟩) n02 .nilIface
  have e7 := d7.far (p := ⟨o + 2, 0, none⟩) n12 .nilIface
  have e8 := d8.set_ 0 .nilIface
  have k7 : ∀ p : Addr, p.block < o ∨ o + 3 ≤ p.block → (w3.setCell ⟨o, 0, none⟩ r).cell? p = w3.cell? p := fun p hp => cell_far _ (by show o ≠ p.block; omega)
  have k8 : ∀ p : Addr, p.block < o ∨ o + 3 ≤ p.block → ((w3.setCell ⟨o, 0, none⟩ r).setCell ⟨o + 1, 0, none⟩ l).cell? p = w3.cell? p := fun p hp => (cell_far _ (by show o + 1 ≠ p.block; omega)).trans (k7 p hp)
  exact
    { c6 := b6.cell 0, f6 := b6.frozen 0, c7 := a7.cell 0, f7 := a7.frozen 0, c8 := d8.cell 0, f8 := d8.frozen 0, e6 := e6, e7 := e7, e8 := e8, k7 := k7, k8 := k8
      k9 := fun p hp => (cell_far _ (by show o + 2 ≠ p.block; omega)).trans (k8 p hp)
      ga := fun B b gs h => ((h.setBlk b6 ⟨by decide, by decide⟩ _).setBlk a7 ⟨by decide, by decide⟩ _).setBlk d8 ⟨by decide, by decide⟩ _
      ch := fun B w h hs => ((h.setCell (.inl hs) _).setCell (.inl (Nat.le_trans hs (by show o ≤ o + 1; omega))) _).setCell (.inl (Nat.le_trans hs (by show o ≤ o + 2; omega))) _
      ow := fun base n A c xs h hb => by
        have hbk : ∀ g', (Value.slice A n c).ownBlock = some g' → o + 3 ≤ g' := fun g' e => by have := (h.lt g' e).1; omega
        exact own_far (own_far (own_far h _ (fun e => by have := hbk _ e; omega)) _ (fun e => by have := hbk _ e; omega)) _ (fun e => by have := hbk _ e; omega) }
/-- an end of Of: it answered -/
theorem of_key {w w3 W7 W8 W9 : World} {B b k n base c : Nat} {gs gs' : List Gm.Gate} {A : Option Addr} {outs : List Nat} {v6 v7 v8 : Value} {f : List Bool → List Bool}
    (ht : T3 w3 W7 W8 W9 w.heap.size v6 v7 v8 (.slice A n c) (.int .i64 0)) (hg : GA w3 B b gs') (hc : Chg (GT B) w w3) (ho : w3.ownsRow base 29 1 (.slice A n c) n (natVals outs)) (hb : w.heap.size + 3 ≤ base) (hm : MadeW gs gs' k outs f) :
    OfP w B b gs k n f (fun _ => false) (.returned (.tuple #[.slice A n c, .int .i64 0, .nilIface])) W9 :=
  ⟨A, c, gs', outs, 0, rfl, ht.ga _ _ _ hg, ht.ch _ _ hc (Nat.le_refl _), own_base (ht.ow _ _ _ _ _ ho hb) (by omega), hm, madeL_zero hm.ext hm.len⟩
theorem MadeL.one {gs gs' : List Gm.Gate} {k out : Nat} {f : List Bool → Bool} (h : MadeL gs gs' k out f) : MadeW gs gs' k [out] (fun inp => [f inp]) :=
  ⟨h.ext, fun x hx => by obtain rfl := List.mem_singleton.1 hx; exact h.has, h.len, fun inp => by unfold evs; rw [List.map_cons, List.map_nil, h.eq]⟩
theorem MadeL.not_ {gs gs' : List Gm.Gate} {k out : Nat} {f : List Bool → Bool} (h : MadeL gs gs' k out f) : MadeL gs gs' k (Gm.notL out) (fun inp => !f inp) :=
  ⟨h.ext, Gm.has_not h.has, h.len, fun inp => by rw [Gm.ev_not, h.eq]⟩
theorem madeW_not {gs : List Gm.Gate} {xs : List Nat} (hx : AllHas gs xs) : MadeW gs gs 0 (xs.map Gm.notL) (fun inp => (evs inp gs xs).map (!·)) :=
  ⟨.refl _, allHas_not hx, by omega, fun inp => evs_not inp gs xs⟩
theorem madeL_of {gs : List Gm.Gate} {r : List Gm.Gate × Nat} {f : List Bool → Bool} (h : ∀ inp, Gm.Comes inp gs r (f inp)) (hl : r.1.length ≤ gs.length + 3) : MadeL gs r.1 3 r.2 f := ⟨(h []).ext, (h []).has, hl, fun inp => (h inp).ev⟩
theorem rp_lg {w : World} {B b k : Nat} {gs : List Gm.Gate} {r : List Gm.Gate × Nat} {f : List Bool → Bool} (hm : MadeL gs r.1 k r.2 f) (e : Ending) (w' : World) (h : RP w B b r e w') : LG w B b gs k f e w' := ⟨r.1, r.2, h.1, h.2.1, h.2.2, hm⟩
/-- a part of Of's: what its inner loop asks -/
def PartOk (gs : List Gm.Gate) (zs : List Nat) : Prop := AllHas gs zs ∧ 1 ≤ zs.length ∧ zs.length ≤ 8
theorem PartOk.one {gs : List Gm.Gate} {x : Nat} (h : Gm.has gs x) : PartOk gs [x] := ⟨fun y hy => by obtain rfl := List.mem_singleton.1 hy; exact h, by simp, by simp⟩
theorem parts_ok1 {gs : List Gm.Gate} {a : List Nat} (ha : PartOk gs a) : ∀ zs ∈ [a], PartOk gs zs := by simpa using ha
theorem parts_ok2 {gs : List Gm.Gate} {a b : List Nat} (ha : PartOk gs a) (hb : PartOk gs b) : ∀ zs ∈ [a, b], PartOk gs zs := by simpa using ⟨ha, hb⟩
theorem parts_ok3 {gs : List Gm.Gate} {a b c : List Nat} (ha : PartOk gs a) (hb : PartOk gs b) (hc : PartOk gs c) : ∀ zs ∈ [a, b, c], PartOk gs zs := by simpa using ⟨ha, hb, hc⟩
theorem ag_size {w W : World} {A : Option Addr} {ad : Addr} {v : Value} (_h : A = some ad) (hc : w.cell? ad = some v) (hb : Below w.heap.size w W) : ad.block < w.heap.size ∧ W.cell? ad = some v :=
  ⟨World.block_lt_of_cell? _ _ hc, (hb.cell (World.block_lt_of_cell? _ _ hc)).trans hc⟩
end Go.Proofs.YtmbjhpgemphmmaaDoor
