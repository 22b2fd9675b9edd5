
/-
  WALK: cnf.Read.
-/
import Derived.Test.YtaedbnbeelkkcaaGreatDoorRn
namespace Go.Proofs.YtaedbnbeelkkcaaGreatDoor
open Go.RowKit
/-- an error and an empty formula -/
def BadP (w : World) (e : Ending) (w' : World) : Prop := ∃ t p, e = .returned (.tuple #[.agg #[.int .i64 0, .slice none 0 0], .iface t (.pointer (some p))]) ∧ Below w.heap.size w w'
def SentAt (w : World) (g : Nat) : Prop := ∃ p : Addr, w.cell? ⟨g, 0, none⟩ = some (.iface 152 (.pointer (some p)))
theorem SentAt.below {w w' : World} {g : Nat} (h : SentAt w g) (hb : Below w.heap.size w w') : SentAt w' g := by
  obtain ⟨p, h⟩ := h
  exact ⟨p, (hb.cell (World.block_lt_of_cell? _ _ h)).trans h⟩
set_option maxRecDepth 100000 in
set_option maxHeartbeats 2000000 in
theorem bad_any {w : World} {n : Int} (he : SentAt w 2) : Calls Tryz.prog 26 #[.int .i64 n] w (BadP w) := by
  obtain ⟨p, he⟩ := he
  have hlt : 2 < w.heap.size := World.block_lt_of_cell? w _ he
  have he1 : ∀ o1, (w.alloc o1).cell? ⟨2, 0, none⟩ = some (.iface 152 (.pointer (some p))) := fun o1 => by rw [World.cell?_alloc_lt _ _ ⟨_, 0, none⟩ hlt]; exact he
  have he2 : ∀ o1 o2, ((w.alloc o1).alloc o2).cell? ⟨2, 0, none⟩ = some (.iface 152 (.pointer (some p))) := fun o1 o2 => by rw [World.cell?_alloc_lt _ _ ⟨_, 0, none⟩ (by simp; omega)]; exact he1 o1
  clear he
  go_enter Tryz.func26, Tryz.ntmps26
  go_upto_region 1 with fail
  go_region_with (fail)
  all_goals go_wp2_with fail
  all_goals exact bodyPost_ret (v := .tuple #[.agg #[.int .i64 0, .slice none 0 0], .iface 58 (.pointer (some ⟨w.heap.size + 1, 0, none⟩))]) (by simp [results, Tryz.results26, go_sem]) rfl ⟨_, _, rfl, below_drewN (bal0 (bal0 (Below.refl _ _) _) _) 1⟩
theorem rd_push {W6 wz w6 : World} {bf : Nat} {v : Int} {lv v' cv : Value} {cs : List (List Int)} {x : List Int} {rows : List Value} {o : Obj} (hb : Below bf W6 wz) (hbf : Blk wz bf 31 #[.int .i64 v, lv]) (hlt : bf < W6.heap.size)
    (hrow : wz.ownsRow W6.heap.size 43 1 lv cs.length rows) (hcl : ∀ (i : Nat) (l : List Int), cs[i]? = some l → ∃ u, rows[i]? = some u ∧ wz.ownsRow W6.heap.size 3 1 u l.length (litVals l))
    (hx : wz.ownsRow W6.heap.size 3 1 cv x.length (litVals x)) (hg : (wz.alloc o).grownBy w6 lv.ownBlock) (hown : w6.ownsRow W6.heap.size 43 1 v' (cs.length + 1) (rows ++ [cv])) :
    Below bf W6 (w6.setCell ⟨bf, 1, none⟩ v') ∧ Blk (w6.setCell ⟨bf, 1, none⟩ v') bf 31 #[.int .i64 v, v'] ∧ CsAt (w6.setCell ⟨bf, 1, none⟩ v') W6.heap.size v' (cs ++ [x]) ∧ Blk w6 bf 31 #[.int .i64 v, lv] := by
  have hbf6 := (hbf.alloc o).grown hg (own_blk_ne hrow hbf (by decide)).symm
  have hb6 : Below bf W6 w6 := (hb.alloc (by have := hbf.lt; omega) o).grown hg (by have := hbf.lt; simp; omega) fun j hj => by have := (hrow.lt j hj).1; omega
  refine ⟨hb6.setCell (Nat.le_refl _) _, hbf6.set_ 1 v', (CsAt.more (new := [x]) hrow hcl (fun i l hl => ?_) hg hown).far hbf6 (by decide) (by decide) 1 v', hbf6⟩
  match i, hl with
  | 0, hl => obtain rfl : x = l := by simpa using hl
             exact ⟨cv, rfl, hx⟩
/-- the lines so far -/
def RdR (W6 : World) (bf : Nat) (v : Int) (N : Nat) (lns : List ByteArray) (iv : Value) (wr : World) : Prop :=
  ∃ (cs : List (List Int)) (A : Option Addr) (c : Nat), cs.length ≤ lns.length ∧ iv = .int .i64 (cs.length : Nat) ∧ Blk wr bf 31 #[.int .i64 v, .slice A cs.length c] ∧ CsAt wr W6.heap.size (.slice A cs.length c) cs ∧ Below bf W6 wr ∧
    (lns.take cs.length).map (·.data.toList) = cs.map Rd.txC ∧ ∀ x ∈ cs, x.length ≤ N
/-- the first line's text -/
def hdL (v : Int) (m : Nat) : List UInt8 := [112, 32, 99, 110, 102, 32] ++ Lib.itoa v ++ [32] ++ Lib.itoa (m : Nat)
/-- Read's answer -/
def RdP (w : World) (s : ByteArray) (e : Ending) (w' : World) : Prop :=
  ∃ v lv ev, e = .returned (.tuple #[.agg #[.int .i64 v, lv], ev]) ∧ Below w.heap.size w w' ∧ (((∃ t p, ev = .iface t (.pointer (some p))) ∧ v = 0 ∧ lv = .slice none 0 0) ∨
    (ev = .nilIface ∧ ∃ (cs : List (List Int)) (A : Option Addr) (c : Nat) (lines : List (List UInt8)), lv = .slice A cs.length c ∧ ClsR w' w'.heap.size A cs ∧ okF v cs = true ∧ (∀ x ∈ cs, x.length ≤ s.size) ∧ Lib.join lines [10] = Lib.trimSuffix s.data.toList [10] ∧ lines = hdL v cs.length :: cs.map Rd.txC))
theorem row4 {l : List ByteArray} (h : l.length = 4) : ∃ a b c d, l = [a, b, c, d] := by match l, h with | [a, b, c, d], _ => exact ⟨a, b, c, d, rfl⟩
theorem trim_le (l : List UInt8) : (Lib.trimSuffix l [10]).length ≤ l.length := by
  unfold Lib.trimSuffix
  split
  · rw [List.length_take]; omega
  · omega
set_option maxRecDepth 100000 in
set_option maxHeartbeats 16000000 in
theorem read_any {w : World} {s : ByteArray} (hs : s.size ≤ 100000) (ht : Tens w) (ha : AtE w) (hm : MaxL w) (he1 : SentAt w 2) (he2 : SentAt w 0) (he3 : SentAt w 1) :
    Calls Tryz.prog 12 #[.string s] w (RdP w s) := by
  obtain ⟨ic, hi0, hz0, hz1, hz2⟩ := info_parts infoClause_
  have HIC := Lib.hid (show _ ∧ _ ∧ _ ∧ _ from ⟨hi0, hz0, hz1, hz2⟩)
  have e0 : decide (200000 < (s.size : Int)) = false := decide_eq_false (by omega)
  obtain ⟨t, htr⟩ : ∃ t : ByteArray, t = ⟨(Lib.trimSuffix s.data.toList [10]).toArray⟩ := ⟨_, rfl⟩
  have htd : t.data.toList = Lib.trimSuffix s.data.toList [10] := by rw [htr]
  have hts : t.size ≤ s.size := by rw [Lib.size_eq, Lib.size_eq, htd]; exact trim_le _
  obtain ⟨W1, hW1⟩ : ∃ W1, W1 = w.alloc (.cells #[.int .i64 0, .slice none 0 0] 31) := ⟨_, rfl⟩
  have hb1 : Below w.heap.size w W1 := by rw [hW1]; exact (Below.refl _ _).alloc (Nat.le_refl _) _
  have k1 : Blk W1 w.heap.size 31 #[.int .i64 0, .slice none 0 0] := by rw [hW1]; exact Blk.new w _ _
  obtain ⟨lns, hlns⟩ : ∃ lns, Rd.pieces 10 t = lns := ⟨_, rfl⟩
  have hj : Lib.join (lns.map (·.data.toList)) [10] = Lib.trimSuffix s.data.toList [10] := by rw [← hlns, ← htd]; exact Rd.pieces_join 10 t
  have hlz : ∀ x ∈ lns, x.size ≤ s.size := fun x hx => by rw [← hlns] at hx; have := Rd.piece_size hx; omega
  obtain ⟨l0, lr, hl0⟩ : ∃ l0 lr, lns = l0 :: lr := by
    cases h : lns with
    | nil => have := Rd.pieces_len 10 t; rw [hlns, h] at this; simp at this
    | cons a b => exact ⟨a, b, rfl⟩
  have hll : lr.length ≤ s.size := by
    have h1 := Rd.pieces_le 10 t
    rw [hlns, hl0, List.length_cons] at h1; omega
  have CT : Calls Tryz.prog 25 #[.string s, .string ⟨#[10]⟩] W1 (fun e w' => e = .returned (.string t) ∧ w' = W1) := by rw [htr]; exact Tryz.strings_TrimSuffix s ⟨#[10]⟩ W1 (by omega)
  have CS := split_any (c := 10) (by omega : t.size ≤ 1000000) (hm.below hb1)
  rw [hlns] at CS
  obtain ⟨W2, hW2⟩ : ∃ W2, W2 = W1.alloc (.cells (lns.map Value.string).toArray 9) := ⟨_, rfl⟩
  rw [← hW2] at CS
  have hb2 : Below W1.heap.size W1 W2 := by rw [hW2]; exact (Below.refl _ _).alloc (Nat.le_refl _) _
  have k2 : Blk W2 W1.heap.size 9 (lns.map Value.string).toArray := by rw [hW2]; exact Blk.new W1 _ _
  have hbw2 : Below w.heap.size w W2 := hb1.trans (hb2.mono hb1.size)
  have c0 : W2.cell? ⟨W1.heap.size, 0, none⟩ = some (.string l0) := by rw [k2.cell 0, hl0]; rfl
  have CW := split_any (c := 32) (by have := hlz l0 (by rw [hl0]; simp); omega : l0.size ≤ 1000000) (hm.below hbw2)
  obtain ⟨ws, hws⟩ : ∃ ws, Rd.pieces 32 l0 = ws := ⟨_, rfl⟩
  have hwj : Lib.join (ws.map (·.data.toList)) [32] = l0.data.toList := by rw [← hws]; exact Rd.pieces_join 32 l0
  have hwz : ∀ x ∈ ws, x.size ≤ 1000000 := fun x hx => by rw [← hws] at hx; have h1 := Rd.piece_size hx; have h2 := hlz l0 (by rw [hl0]; simp); omega
  have hwl : ws.length ≤ s.size + 1 := by rw [← hws]; have h1 := Rd.pieces_le 32 l0; have h2 := hlz l0 (by rw [hl0]; simp); omega
  rw [hws] at CW
  obtain ⟨W3, hW3⟩ : ∃ W3, W3 = W2.alloc (.cells (ws.map Value.string).toArray 9) := ⟨_, rfl⟩
  rw [← hW3] at CW
  have hb3 : Below W2.heap.size W2 W3 := by rw [hW3]; exact (Below.refl _ _).alloc (Nat.le_refl _) _
  have k3 : Blk W3 W2.heap.size 9 (ws.map Value.string).toArray := by rw [hW3]; exact Blk.new W2 _ _
  have hnl : lns.length = lr.length + 1 := by rw [hl0]; rfl
  obtain ⟨nl, hnl'⟩ : ∃ nl, lns.length = nl := ⟨_, rfl⟩
  obtain ⟨n1, hn1⟩ : ∃ n1, lr.length = n1 := ⟨_, rfl⟩
  obtain ⟨nw, hnw⟩ : ∃ nw, ws.length = nw := ⟨_, rfl⟩
  rw [hnl'] at hnl
  rw [hnl', hnl, hn1] at CS
  rw [hn1] at hll
  rw [hnw] at CW hwl
  have HW1 := Lib.hid hW1
  have CT := Lib.hid CT
  have CS := Lib.hid CS
  have CW := Lib.hid CW
  have HC0 := Lib.hid c0
  have HK2 := Lib.hid (k2.below hb3 k2.lt)
  have HK1 := Lib.hid ((k1.below hb2 k1.lt).below hb3 (k1.below hb2 k1.lt).lt)
  have HK3 := Lib.hid k3
  have HB3 := Lib.hid (hbw2.trans (hb3.mono hbw2.size))
  have HX := Lib.hid (And.intro ht (And.intro ha (And.intro hm (And.intro he1 (And.intro he2 he3)))))
  have HJ := Lib.hid hj
  have HLZ := Lib.hid hlz
  have HL0 := Lib.hid hl0
  have HWJ := Lib.hid hwj
  have HWZ := Lib.hid hwz
  have HNW := Lib.hid hnw
  have HN1L := Lib.hid hn1
  have HLT := Lib.hid (And.intro k1.lt (And.intro k2.lt (And.intro hb1.size (And.intro hb2.size hb3.size))))
  clear hi0 hz0 hz1 hz2 htr htd hts hW1 hb1 k1 hlns hj hlz hl0 hW2 hb2 k2 hbw2 c0 hws hwj hwz hW3 hb3 k3 hnl' hnl hn1 hnw ht ha hm he1 he2 he3
  go_enter Tryz.func12, Tryz.ntmps12
  go_upto_region 1 with fail
  rw [← HW1.out]
  go_wp2_with fail
  refine CT.out.mono ?_
  rintro e wq ⟨rfl, hwq⟩
  obtain rfl := hwq.symm
  go_wp2_with fail
  refine CS.out.mono ?_
  rintro e wq ⟨rfl, hwq⟩
  obtain rfl := hwq.symm
  have c0 := HC0.out
  go_wp2_with fail
  refine CW.out.mono ?_
  rintro e wq ⟨rfl, hwq⟩
  obtain rfl := hwq.symm
  clear c0
  by_cases h4 : nw = 4
  case neg =>
    have e4 : ((nw : Int) == 4) = false := by simp; omega
    have e5 : ¬ (nw : Int) = 4 := by omega
    go_wp2_with fail
    refine (bad_any (HX.out.2.2.2.1.below (HB3.out))).mono ?_
    rintro e wE ⟨tE, pE, rfl, hbE⟩
    have HBE := Lib.hid ((HB3.out).trans (hbE.mono (HB3.out).size))
    have HKE := Lib.hid ((HK1.out).below hbE (HK1.out).lt)
    clear hbE
    have y0 := (HKE.out).cell 0
    have y1 := (HKE.out).cell 1
    have f0 := (HKE.out).frozen 0
    have f1 := (HKE.out).frozen 1
    obtain ⟨W9, hW9⟩ : ∃ W9, W9 = (wE.setCell ⟨w.heap.size, 0, none⟩ (.int .i64 0)).setCell ⟨w.heap.size, 1, none⟩ (.slice none 0 0) := ⟨_, rfl⟩
    have x9 : Blk W9 w.heap.size 31 #[.int .i64 0, .slice none 0 0] := by rw [hW9]; exact ((HKE.out).set_ 0 _).set_ 1 _
    have HB9 := Lib.hid (show Below w.heap.size w W9 by rw [hW9]; exact ((HBE.out).setCell (Nat.le_refl _) _).setCell (Nat.le_refl _) _)
    have x90 := x9.cell 0
    have x91 := x9.cell 1
    have HW9 := Lib.hid hW9
    clear hW9 x9
    go_wp2_with fail
    rw [← HW9.out]
    exact bodyPost_ret (v := .tuple #[.agg #[.int .i64 0, .slice none 0 0], .iface tE (.pointer (some pE))]) (by simp [results, Tryz.results12, go_sem, x90, x91]) rfl ⟨_, _, _, rfl, HB9.out, .inl ⟨⟨_, _, rfl⟩, rfl, rfl⟩⟩
  subst h4
  obtain ⟨a, b, c, d, rfl⟩ := row4 HNW.out
  have c0 : W3.cell? ⟨W2.heap.size, 0, none⟩ = some (.string a) := by rw [HK3.out.cell 0]; rfl
  have c1 : W3.cell? ⟨W2.heap.size, 1, none⟩ = some (.string b) := by rw [HK3.out.cell 1]; rfl
  have c2 : W3.cell? ⟨W2.heap.size, 2, none⟩ = some (.string c) := by rw [HK3.out.cell 2]; rfl
  obtain ⟨qa, hqa⟩ : ∃ qa, (a.toList == [112]) = qa := ⟨_, rfl⟩
  obtain ⟨qb, hqb⟩ : ∃ qb, (b.toList == [99, 110, 102]) = qb := ⟨_, rfl⟩
  cases qa with
  | false =>
    go_wp2_with fail
    refine (bad_any (HX.out.2.2.2.1.below (HB3.out))).mono ?_
    rintro e wE ⟨tE, pE, rfl, hbE⟩
    have HBE := Lib.hid ((HB3.out).trans (hbE.mono (HB3.out).size))
    have HKE := Lib.hid ((HK1.out).below hbE (HK1.out).lt)
    clear hbE
    have y0 := (HKE.out).cell 0
    have y1 := (HKE.out).cell 1
    have f0 := (HKE.out).frozen 0
    have f1 := (HKE.out).frozen 1
    obtain ⟨W9, hW9⟩ : ∃ W9, W9 = (wE.setCell ⟨w.heap.size, 0, none⟩ (.int .i64 0)).setCell ⟨w.heap.size, 1, none⟩ (.slice none 0 0) := ⟨_, rfl⟩
    have x9 : Blk W9 w.heap.size 31 #[.int .i64 0, .slice none 0 0] := by rw [hW9]; exact ((HKE.out).set_ 0 _).set_ 1 _
    have HB9 := Lib.hid (show Below w.heap.size w W9 by rw [hW9]; exact ((HBE.out).setCell (Nat.le_refl _) _).setCell (Nat.le_refl _) _)
    have x90 := x9.cell 0
    have x91 := x9.cell 1
    have HW9 := Lib.hid hW9
    clear hW9 x9
    go_wp2_with fail
    rw [← HW9.out]
    exact bodyPost_ret (v := .tuple #[.agg #[.int .i64 0, .slice none 0 0], .iface tE (.pointer (some pE))]) (by simp [results, Tryz.results12, go_sem, x90, x91]) rfl ⟨_, _, _, rfl, HB9.out, .inl ⟨⟨_, _, rfl⟩, rfl, rfl⟩⟩
  | true =>
  cases qb with
  | false =>
    go_wp2_with fail
    refine (bad_any (HX.out.2.2.2.1.below (HB3.out))).mono ?_
    rintro e wE ⟨tE, pE, rfl, hbE⟩
    have HBE := Lib.hid ((HB3.out).trans (hbE.mono (HB3.out).size))
    have HKE := Lib.hid ((HK1.out).below hbE (HK1.out).lt)
    clear hbE
    have y0 := (HKE.out).cell 0
    have y1 := (HKE.out).cell 1
    have f0 := (HKE.out).frozen 0
    have f1 := (HKE.out).frozen 1
    obtain ⟨W9, hW9⟩ : ∃ W9, W9 = (wE.setCell ⟨w.heap.size, 0, none⟩ (.int .i64 0)).setCell ⟨w.heap.size, 1, none⟩ (.slice none 0 0) := ⟨_, rfl⟩
    have x9 : Blk W9 w.heap.size 31 #[.int .i64 0, .slice none 0 0] := by rw [hW9]; exact ((HKE.out).set_ 0 _).set_ 1 _
    have HB9 := Lib.hid (show Below w.heap.size w W9 by rw [hW9]; exact ((HBE.out).setCell (Nat.le_refl _) _).setCell (Nat.le_refl _) _)
    have x90 := x9.cell 0
    have x91 := x9.cell 1
    have HW9 := Lib.hid hW9
    clear hW9 x9
    go_wp2_with fail
    rw [← HW9.out]
    exact bodyPost_ret (v := .tuple #[.agg #[.int .i64 0, .slice none 0 0], .iface tE (.pointer (some pE))]) (by simp [results, Tryz.results12, go_sem, x90, x91]) rfl ⟨_, _, _, rfl, HB9.out, .inl ⟨⟨_, _, rfl⟩, rfl, rfl⟩⟩
  | true =>
  have C2 := Lib.hid (number_any (s := c) (HWZ.out c (by simp)) (HX.out.1.below HB3.out) (HX.out.2.1.below HB3.out))
  have HQ := Lib.hid (And.intro hqa hqb)
  go_wp2_with fail
  refine C2.out.mono ?_
  rintro e w4 ⟨v, b1, rfl, hb4, hr1⟩
  have HB4 := Lib.hid (HB3.out.trans (hb4.mono HB3.out.size))
  have HK14 := Lib.hid (HK1.out.below hb4 HK1.out.lt)
  have k34 := HK3.out.below hb4 HK3.out.lt
  have c3 : w4.cell? ⟨W2.heap.size, 3, none⟩ = some (.string d) := by rw [k34.cell 3]; rfl
  have HK24 := Lib.hid (HK2.out.below hb4 HK2.out.lt)
  have C3 := Lib.hid (number_any (s := d) (HWZ.out d (by simp)) (HX.out.1.below HB4.out) (HX.out.2.1.below HB4.out))
  have HR1 := Lib.hid hr1
  clear hqa hqb c0 c1 c2 hb4 k34 hr1
  go_wp2_with fail
  refine C3.out.mono ?_
  rintro e w5 ⟨m, b2, rfl, hb5, hr2⟩
  have HB5 := Lib.hid (HB4.out.trans (hb5.mono HB4.out.size))
  have HK15 := Lib.hid (HK14.out.below hb5 HK14.out.lt)
  have HK25 := Lib.hid (HK24.out.below hb5 HK24.out.lt)
  clear c3 hb5
  obtain ⟨hb1, hn1⟩ | ⟨hb1, _⟩ := HR1.out
  case inr =>
    subst hb1
    clear hr2
    go_wp2_with fail
    refine (bad_any (HX.out.2.2.2.1.below (HB5.out))).mono ?_
    rintro e wE ⟨tE, pE, rfl, hbE⟩
    have HBE := Lib.hid ((HB5.out).trans (hbE.mono (HB5.out).size))
    have HKE := Lib.hid ((HK15.out).below hbE (HK15.out).lt)
    clear hbE
    have y0 := (HKE.out).cell 0
    have y1 := (HKE.out).cell 1
    have f0 := (HKE.out).frozen 0
    have f1 := (HKE.out).frozen 1
    obtain ⟨W9, hW9⟩ : ∃ W9, W9 = (wE.setCell ⟨w.heap.size, 0, none⟩ (.int .i64 0)).setCell ⟨w.heap.size, 1, none⟩ (.slice none 0 0) := ⟨_, rfl⟩
    have x9 : Blk W9 w.heap.size 31 #[.int .i64 0, .slice none 0 0] := by rw [hW9]; exact ((HKE.out).set_ 0 _).set_ 1 _
    have HB9 := Lib.hid (show Below w.heap.size w W9 by rw [hW9]; exact ((HBE.out).setCell (Nat.le_refl _) _).setCell (Nat.le_refl _) _)
    have x90 := x9.cell 0
    have x91 := x9.cell 1
    have HW9 := Lib.hid hW9
    clear hW9 x9
    go_wp2_with fail
    rw [← HW9.out]
    exact bodyPost_ret (v := .tuple #[.agg #[.int .i64 0, .slice none 0 0], .iface tE (.pointer (some pE))]) (by simp [results, Tryz.results12, go_sem, x90, x91]) rfl ⟨_, _, _, rfl, HB9.out, .inl ⟨⟨_, _, rfl⟩, rfl, rfl⟩⟩
  obtain ⟨hb2, hn2⟩ | ⟨hb2, _⟩ := hr2
  case inr =>
    subst hb1 hb2
    clear hn1
    go_wp2_with fail
    refine (bad_any (HX.out.2.2.2.1.below (HB5.out))).mono ?_
    rintro e wE ⟨tE, pE, rfl, hbE⟩
    have HBE := Lib.hid ((HB5.out).trans (hbE.mono (HB5.out).size))
    have HKE := Lib.hid ((HK15.out).below hbE (HK15.out).lt)
    clear hbE
    have y0 := (HKE.out).cell 0
    have y1 := (HKE.out).cell 1
    have f0 := (HKE.out).frozen 0
    have f1 := (HKE.out).frozen 1
    obtain ⟨W9, hW9⟩ : ∃ W9, W9 = (wE.setCell ⟨w.heap.size, 0, none⟩ (.int .i64 0)).setCell ⟨w.heap.size, 1, none⟩ (.slice none 0 0) := ⟨_, rfl⟩
    have x9 : Blk W9 w.heap.size 31 #[.int .i64 0, .slice none 0 0] := by rw [hW9]; exact ((HKE.out).set_ 0 _).set_ 1 _
    have HB9 := Lib.hid (show Below w.heap.size w W9 by rw [hW9]; exact ((HBE.out).setCell (Nat.le_refl _) _).setCell (Nat.le_refl _) _)
    have x90 := x9.cell 0
    have x91 := x9.cell 1
    have HW9 := Lib.hid hW9
    clear hW9 x9
    go_wp2_with fail
    rw [← HW9.out]
    exact bodyPost_ret (v := .tuple #[.agg #[.int .i64 0, .slice none 0 0], .iface tE (.pointer (some pE))]) (by simp [results, Tryz.results12, go_sem, x90, x91]) rfl ⟨_, _, _, rfl, HB9.out, .inl ⟨⟨_, _, rfl⟩, rfl, rfl⟩⟩
  subst hb1 hb2
  have HN1 := Lib.hid hn1
  have HN2 := Lib.hid hn2
  clear hn1 hn2
  by_cases hv0 : v < 0
  case pos =>
    have e5 : decide (v < 0) = true := decide_eq_true hv0
    clear hv0
    go_wp2_with fail
    refine (bad_any (HX.out.2.2.2.1.below (HB5.out))).mono ?_
    rintro e wE ⟨tE, pE, rfl, hbE⟩
    have HBE := Lib.hid ((HB5.out).trans (hbE.mono (HB5.out).size))
    have HKE := Lib.hid ((HK15.out).below hbE (HK15.out).lt)
    clear hbE
    have y0 := (HKE.out).cell 0
    have y1 := (HKE.out).cell 1
    have f0 := (HKE.out).frozen 0
    have f1 := (HKE.out).frozen 1
    obtain ⟨W9, hW9⟩ : ∃ W9, W9 = (wE.setCell ⟨w.heap.size, 0, none⟩ (.int .i64 0)).setCell ⟨w.heap.size, 1, none⟩ (.slice none 0 0) := ⟨_, rfl⟩
    have x9 : Blk W9 w.heap.size 31 #[.int .i64 0, .slice none 0 0] := by rw [hW9]; exact ((HKE.out).set_ 0 _).set_ 1 _
    have HB9 := Lib.hid (show Below w.heap.size w W9 by rw [hW9]; exact ((HBE.out).setCell (Nat.le_refl _) _).setCell (Nat.le_refl _) _)
    have x90 := x9.cell 0
    have x91 := x9.cell 1
    have HW9 := Lib.hid hW9
    clear hW9 x9
    go_wp2_with fail
    rw [← HW9.out]
    exact bodyPost_ret (v := .tuple #[.agg #[.int .i64 0, .slice none 0 0], .iface tE (.pointer (some pE))]) (by simp [results, Tryz.results12, go_sem, x90, x91]) rfl ⟨_, _, _, rfl, HB9.out, .inl ⟨⟨_, _, rfl⟩, rfl, rfl⟩⟩
  have e5 : decide (v < 0) = false := decide_eq_false hv0
  by_cases hm0 : m < 0
  case pos =>
    have e6 : decide (m < 0) = true := decide_eq_true hm0
    clear hv0 hm0
    go_wp2_with fail
    refine (bad_any (HX.out.2.2.2.1.below (HB5.out))).mono ?_
    rintro e wE ⟨tE, pE, rfl, hbE⟩
    have HBE := Lib.hid ((HB5.out).trans (hbE.mono (HB5.out).size))
    have HKE := Lib.hid ((HK15.out).below hbE (HK15.out).lt)
    clear hbE
    have y0 := (HKE.out).cell 0
    have y1 := (HKE.out).cell 1
    have f0 := (HKE.out).frozen 0
    have f1 := (HKE.out).frozen 1
    obtain ⟨W9, hW9⟩ : ∃ W9, W9 = (wE.setCell ⟨w.heap.size, 0, none⟩ (.int .i64 0)).setCell ⟨w.heap.size, 1, none⟩ (.slice none 0 0) := ⟨_, rfl⟩
    have x9 : Blk W9 w.heap.size 31 #[.int .i64 0, .slice none 0 0] := by rw [hW9]; exact ((HKE.out).set_ 0 _).set_ 1 _
    have HB9 := Lib.hid (show Below w.heap.size w W9 by rw [hW9]; exact ((HBE.out).setCell (Nat.le_refl _) _).setCell (Nat.le_refl _) _)
    have x90 := x9.cell 0
    have x91 := x9.cell 1
    have HW9 := Lib.hid hW9
    clear hW9 x9
    go_wp2_with fail
    rw [← HW9.out]
    exact bodyPost_ret (v := .tuple #[.agg #[.int .i64 0, .slice none 0 0], .iface tE (.pointer (some pE))]) (by simp [results, Tryz.results12, go_sem, x90, x91]) rfl ⟨_, _, _, rfl, HB9.out, .inl ⟨⟨_, _, rfl⟩, rfl, rfl⟩⟩
  have e6 : decide (m < 0) = false := decide_eq_false hm0
  clear hv0 hm0
  obtain ⟨W6, hW6⟩ : ∃ W6, W6 = w5.alloc (.cells #[.int .i64 v, .slice none 0 0] 31) := ⟨_, rfl⟩
  have hb6 : Below w5.heap.size w5 W6 := by rw [hW6]; exact (Below.refl _ _).alloc (Nat.le_refl _) _
  have k6 : Blk W6 w5.heap.size 31 #[.int .i64 v, .slice none 0 0] := by rw [hW6]; exact Blk.new w5 _ _
  have HB6 := Lib.hid (HB5.out.trans (hb6.mono HB5.out.size))
  have HK16 := Lib.hid (HK15.out.below hb6 HK15.out.lt)
  have HK26 := Lib.hid (HK25.out.below hb6 HK25.out.lt)
  have HKF := Lib.hid k6
  have HLF := Lib.hid (And.intro k6.lt (And.intro HK15.out.lt HK25.out.lt))
  have HW6 := Lib.hid hW6
  clear hW6 hb6 k6

  by_cases h0 : n1 = 0
  · subst h0
    go_upto_region 13 with fail
    rw [← HW6.out]
    go_wp2_with fail
    go_loopw [85] (fun iv wr => RdR W6 w5.heap.size v s.size lr iv wr) (fun iv _ => lr.length - (intOf iv).toNat)
    case atStart => exact ⟨[], none, 0, Nat.zero_le _, rfl, HKF.out, CsAt.nil _ _, Below.refl _ _, by simp, by simp⟩
    case round =>
      obtain ⟨cs, Al, cl, hk, rfl, hkf, hcs, hb, htx, hxl⟩ := hrel
      obtain ⟨k, hkk⟩ : ∃ k, cs.length = k := ⟨_, rfl⟩
      rw [hkk] at hk hkf hcs htx
      rw [hkk]
      rw [HN1L.out] at hk
      have HB := Lib.hid (HB6.out.trans (hb.mono HB5.out.size))
      have HBW := Lib.hid hb
      have HKFr := Lib.hid hkf
      have HCS := Lib.hid hcs
      have HK1r := Lib.hid (HK16.out.below hb HLF.out.2.1)
      have HK2r := Lib.hid (HK26.out.below hb HLF.out.2.2)
      have HTX := Lib.hid htx
      have HXL := Lib.hid hxl
      have HKK := Lib.hid hkk
      have hsw : W6.heap.size ≤ wr.heap.size := hb.size
      clear hkf hcs hb htx hxl hkk

      obtain rfl : 0 = k := by omega
      skip
      have y0 := HKFr.out.cell 0
      have y1 := HKFr.out.cell 1
      by_cases hkm : (0 : Int) = m
      case neg =>
        have e7 : ((0 : Int) == m) = false := by simpa using hkm
        go_wp2_with fail
        refine (bad_any (HX.out.2.2.2.1.below (HB.out))).mono ?_
        rintro e wE ⟨tE, pE, rfl, hbE⟩
        have HBE := Lib.hid ((HB.out).trans (hbE.mono (HB.out).size))
        have HKE := Lib.hid ((HK1r.out).below hbE (HK1r.out).lt)
        clear hbE
        have y0 := (HKE.out).cell 0
        have y1 := (HKE.out).cell 1
        have f0 := (HKE.out).frozen 0
        have f1 := (HKE.out).frozen 1
        obtain ⟨W9, hW9⟩ : ∃ W9, W9 = (wE.setCell ⟨w.heap.size, 0, none⟩ (.int .i64 0)).setCell ⟨w.heap.size, 1, none⟩ (.slice none 0 0) := ⟨_, rfl⟩
        have x9 : Blk W9 w.heap.size 31 #[.int .i64 0, .slice none 0 0] := by rw [hW9]; exact ((HKE.out).set_ 0 _).set_ 1 _
        have HB9 := Lib.hid (show Below w.heap.size w W9 by rw [hW9]; exact ((HBE.out).setCell (Nat.le_refl _) _).setCell (Nat.le_refl _) _)
        have x90 := x9.cell 0
        have x91 := x9.cell 1
        have HW9 := Lib.hid hW9
        clear hW9 x9
        go_wp2_with fail
        rw [← HW9.out]
        exact bodyPost_ret (v := .tuple #[.agg #[.int .i64 0, .slice none 0 0], .iface tE (.pointer (some pE))]) (by simp [results, Tryz.results12, go_sem, x90, x91]) rfl ⟨_, _, _, rfl, HB9.out, .inl ⟨⟨_, _, rfl⟩, rfl, rfl⟩⟩
      subst hkm
      obtain ⟨p2, hp2⟩ := HX.out.2.2.2.2.1.below HB.out
      obtain ⟨p3, hp3⟩ := HX.out.2.2.2.2.2.below HB.out
      have CK := Lib.hid (check_any (v := v) (c := cl) HKK.out hp3 hp2 (fun _ x hx => by have := HXL.out x hx; omega) (clsr_of_own HCS.out) (Nat.le_refl _))
      clear hp2 hp3
      go_wp2_with fail
      refine CK.out.mono ?_
      rintro e w8 ⟨ev, rfl, hb8, hres⟩
      have HB8 := Lib.hid (HB.out.trans (hb8.mono HB.out.size))
      have HK18 := Lib.hid (HK1r.out.below hb8 HK1r.out.lt)
      have HKF8 := Lib.hid (HKFr.out.below hb8 HKFr.out.lt)
      have HCS8 := Lib.hid (HCS.out.chg hb8)
      clear hb8 y0 y1
      rcases hres with ⟨hok, rfl⟩ | ⟨_, tE, pE, rfl⟩
      case inr =>
        have y0 := (HK18.out).cell 0
        have y1 := (HK18.out).cell 1
        have f0 := (HK18.out).frozen 0
        have f1 := (HK18.out).frozen 1
        obtain ⟨W9, hW9⟩ : ∃ W9, W9 = (w8.setCell ⟨w.heap.size, 0, none⟩ (.int .i64 0)).setCell ⟨w.heap.size, 1, none⟩ (.slice none 0 0) := ⟨_, rfl⟩
        have x9 : Blk W9 w.heap.size 31 #[.int .i64 0, .slice none 0 0] := by rw [hW9]; exact ((HK18.out).set_ 0 _).set_ 1 _
        have HB9 := Lib.hid (show Below w.heap.size w W9 by rw [hW9]; exact ((HB8.out).setCell (Nat.le_refl _) _).setCell (Nat.le_refl _) _)
        have x90 := x9.cell 0
        have x91 := x9.cell 1
        have HW9 := Lib.hid hW9
        clear hW9 x9
        go_wp2_with fail
        rw [← HW9.out]
        exact bodyPost_ret (v := .tuple #[.agg #[.int .i64 0, .slice none 0 0], .iface tE (.pointer (some pE))]) (by simp [results, Tryz.results12, go_sem, x90, x91]) rfl ⟨_, _, _, rfl, HB9.out, .inl ⟨⟨_, _, rfl⟩, rfl, rfl⟩⟩
      have HOK := Lib.hid hok
      have z0 := HKF8.out.cell 0
      have z1 := HKF8.out.cell 1
      have HC9 := Lib.hid (((HCS8.out.far HK18.out (by decide) (by decide) 0 (.int .i64 v)).far (HK18.out.set_ 0 _) (by decide) (by decide) 1 (.slice Al 0 cl)))
      have hdr : l0.data.toList = hdL v cs.length := by
        have h1 := HWJ.out
        have ha : a.data.toList = [112] := by rw [← ByteArray.toList_eq]; simpa using HQ.out.1
        have hb : b.data.toList = [99, 110, 102] := by rw [← ByteArray.toList_eq]; simpa using HQ.out.2
        simp only [List.map_cons, List.map_nil, ha, hb, ← HN1.out.2, ← HN2.out.2] at h1
        rw [← h1, Rd.head_join, HKK.out]; rfl
      have htl : lr.map (·.data.toList) = cs.map Rd.txC := by
        have h1 := HTX.out
        rwa [List.take_of_length_le (by have := HN1L.out; omega)] at h1
      have HLN := Lib.hid (And.intro hdr htl)
      clear hok hdr htl
      have y0 := (HK18.out).cell 0
      have y1 := (HK18.out).cell 1
      have f0 := (HK18.out).frozen 0
      have f1 := (HK18.out).frozen 1
      obtain ⟨W9, hW9⟩ : ∃ W9, W9 = (w8.setCell ⟨w.heap.size, 0, none⟩ (.int .i64 v)).setCell ⟨w.heap.size, 1, none⟩ (.slice Al 0 cl) := ⟨_, rfl⟩
      have x9 : Blk W9 w.heap.size 31 #[.int .i64 v, .slice Al 0 cl] := by rw [hW9]; exact ((HK18.out).set_ 0 _).set_ 1 _
      have HB9 := Lib.hid (show Below w.heap.size w W9 by rw [hW9]; exact ((HB8.out).setCell (Nat.le_refl _) _).setCell (Nat.le_refl _) _)
      have x90 := x9.cell 0
      have x91 := x9.cell 1
      have HD9 := Lib.hid (show CsAt W9 W6.heap.size (.slice Al 0 cl) cs by rw [hW9]; exact HC9.out)
      have HW9 := Lib.hid hW9
      clear hW9 x9
      go_wp2_with fail
      rw [← HW9.out]
      exact bodyPost_ret (v := .tuple #[.agg #[.int .i64 v, .slice Al 0 cl], .nilIface]) (by simp [results, Tryz.results12, go_sem, x90, x91]) rfl ⟨_, _, _, rfl, HB9.out, .inr ⟨rfl, cs, Al, cl, lns.map (·.data.toList), by rw [HKK.out], clsr_of_own (n := 0) HD9.out, HOK.out, HXL.out, HJ.out, by rw [HL0.out, List.map_cons, HLN.out.1, HLN.out.2]⟩⟩
  ·
    go_upto_region 13 with fail
    rw [← HW6.out]
    go_wp2_with fail
    go_loopw [85] (fun iv wr => RdR W6 w5.heap.size v s.size lr iv wr) (fun iv _ => lr.length - (intOf iv).toNat)
    case atStart => exact ⟨[], none, 0, Nat.zero_le _, rfl, HKF.out, CsAt.nil _ _, Below.refl _ _, by simp, by simp⟩
    case round =>
      obtain ⟨cs, Al, cl, hk, rfl, hkf, hcs, hb, htx, hxl⟩ := hrel
      obtain ⟨k, hkk⟩ : ∃ k, cs.length = k := ⟨_, rfl⟩
      rw [hkk] at hk hkf hcs htx
      rw [hkk]
      rw [HN1L.out] at hk
      have HB := Lib.hid (HB6.out.trans (hb.mono HB5.out.size))
      have HBW := Lib.hid hb
      have HKFr := Lib.hid hkf
      have HCS := Lib.hid hcs
      have HK1r := Lib.hid (HK16.out.below hb HLF.out.2.1)
      have HK2r := Lib.hid (HK26.out.below hb HLF.out.2.2)
      have HTX := Lib.hid htx
      have HXL := Lib.hid hxl
      have HKK := Lib.hid hkk
      have hsw : W6.heap.size ≤ wr.heap.size := hb.size
      clear hkf hcs hb htx hxl hkk

      by_cases hk2 : k < n1
      · obtain ⟨x, hx⟩ : ∃ x, lr[k]? = some x := ⟨_, List.getElem?_eq_getElem (by have := HN1L.out; omega)⟩
        have cx : wr.cell? ⟨W1.heap.size, k + 1, none⟩ = some (.string x) := by rw [HK2r.out.cell (k + 1), HL0.out]; simp [hx]
        have cx' : wr.cell? ⟨W1.heap.size, 1 + k, none⟩ = some (.string x) := by rw [Nat.add_comm]; exact cx
        have hxs := HLZ.out x (by rw [HL0.out]; exact List.mem_cons_of_mem _ (List.mem_of_getElem? hx))
        have CC := Lib.hid (clause_any (s := x) (by omega) (HX.out.1.below HB.out) (HX.out.2.1.below HB.out) (HX.out.2.2.1.below HB.out))
        have HX2 := Lib.hid (And.intro hx hxs)
        clear hx hxs
        go_wp2_with fail
        refine CC.out.mono ?_
        rintro e w7 ⟨cv, bb, rfl, hb7, hres⟩
        have HB7 := Lib.hid (HB.out.trans (hb7.mono HB.out.size))
        have HBW7 := Lib.hid (HBW.out.trans (hb7.mono (Nat.le_of_lt HKFr.out.lt)))
        have HKF7 := Lib.hid (HKFr.out.below hb7 HKFr.out.lt)
        have HK17 := Lib.hid (HK1r.out.below hb7 HK1r.out.lt)
        have HCS7 := Lib.hid (HCS.out.chg hb7)
        have hs7 : wr.heap.size ≤ w7.heap.size := hb7.size
        clear hb7 cx cx'
        rcases hres with ⟨rfl, rfl⟩ | ⟨rfl, xs, Ax, cxx, rfl, hox, htxx, hxl1, _⟩
        · go_wp2_with fail
          refine (bad_any (HX.out.2.2.2.1.below (HB7.out))).mono ?_
          rintro e wE ⟨tE, pE, rfl, hbE⟩
          have HBE := Lib.hid ((HB7.out).trans (hbE.mono (HB7.out).size))
          have HKE := Lib.hid ((HK17.out).below hbE (HK17.out).lt)
          clear hbE
          have y0 := (HKE.out).cell 0
          have y1 := (HKE.out).cell 1
          have f0 := (HKE.out).frozen 0
          have f1 := (HKE.out).frozen 1
          obtain ⟨W9, hW9⟩ : ∃ W9, W9 = (wE.setCell ⟨w.heap.size, 0, none⟩ (.int .i64 0)).setCell ⟨w.heap.size, 1, none⟩ (.slice none 0 0) := ⟨_, rfl⟩
          have x9 : Blk W9 w.heap.size 31 #[.int .i64 0, .slice none 0 0] := by rw [hW9]; exact ((HKE.out).set_ 0 _).set_ 1 _
          have HB9 := Lib.hid (show Below w.heap.size w W9 by rw [hW9]; exact ((HBE.out).setCell (Nat.le_refl _) _).setCell (Nat.le_refl _) _)
          have x90 := x9.cell 0
          have x91 := x9.cell 1
          have HW9 := Lib.hid hW9
          clear hW9 x9
          go_wp2_with fail
          rw [← HW9.out]
          exact bodyPost_ret (v := .tuple #[.agg #[.int .i64 0, .slice none 0 0], .iface tE (.pointer (some pE))]) (by simp [results, Tryz.results12, go_sem, x90, x91]) rfl ⟨_, _, _, rfl, HB9.out, .inl ⟨⟨_, _, rfl⟩, rfl, rfl⟩⟩
        · obtain ⟨rows, hrow, hcl⟩ := HCS7.out
          obtain ⟨mx, hmx⟩ : ∃ mx, xs.length = mx := ⟨_, rfl⟩
          have hox2 : w7.ownsRow W6.heap.size 3 1 (.slice Ax xs.length cxx) xs.length (litVals xs) := own_base hox hsw
          rw [HKK.out] at hrow
          rw [hmx]
          have HROW := Lib.hid hrow
          have HCL := Lib.hid hcl
          have HOX := Lib.hid hox2
          have HMX := Lib.hid hmx
          have HTXX := Lib.hid (And.intro htxx hxl1)
          have y1 := HKF7.out.cell 1
          clear hrow hcl hox hox2 hmx htxx hxl1
          go_wp2_with (at_builtin; refine wpList_append_sl _ rfl (.tmp 104) (.tmp 106) _ rfl W6.heap.size 43 ic _ 1 24 Tryz.underlying22 HIC.out.1 HIC.out.2.1 HIC.out.2.2.1 HIC.out.2.2.2 rfl (by omega) _ k _ rfl (HROW.out.alloc _) (w7.heap.size + 1) (some ⟨w7.heap.size, 0, none⟩) 1 1 [.slice Ax mx cxx] rfl (reads_new rfl (by omega) rfl) (fun u hu => by rw [List.mem_singleton.1 hu]; rfl) (le_maxLen (by omega)) (le_bytes (by omega) (by omega)) (by simp; omega) ?_; intro A8 c8 w8 hown8 hg8; have hpp := rd_push (cs := cs) (x := xs) (cv := .slice Ax mx cxx) HBW7.out HKF7.out HLF.out.1 (by rw [HKK.out]; exact HROW.out) HCL.out (by rw [← HMX.out]; exact HOX.out) hg8 (by rw [HKK.out]; exact hown8); have z1 := hpp.2.2.2.cell 1; have zf := hpp.2.2.2.frozen 1; have HPP := Lib.hid hpp; clear hpp y1 hown8 hg8)
          go_roundw
          case rel =>
            have hl : (cs ++ [xs]).length = k + 1 := by rw [List.length_append, HKK.out]; rfl
            refine ⟨cs ++ [xs], A8, c8, by rw [hl]; have := HN1L.out; omega, by rw [hl]; go_num, by rw [hl]; exact HPP.out.2.1, by rw [hl]; exact HPP.out.2.2.1, HPP.out.1, ?_, fun z hz => ?_⟩
            · rw [hl, Gm.take_one HX2.out.1, List.map_append, HTX.out, List.map_append]
              simp [HTXX.out.1]
            · rcases List.mem_append.1 hz with hz | hz
              · exact HXL.out z hz
              · rw [List.mem_singleton.1 hz]; have := HTXX.out.2; have := HX2.out.2; omega
          case measure => have := HN1L.out; simp [intOf]; omega
      · obtain rfl : n1 = k := by omega
        have y0 := HKFr.out.cell 0
        have y1 := HKFr.out.cell 1
        by_cases hkm : (n1 : Int) = m
        case neg =>
          have e7 : ((n1 : Int) == m) = false := by simpa using hkm
          go_wp2_with fail
          refine (bad_any (HX.out.2.2.2.1.below (HB.out))).mono ?_
          rintro e wE ⟨tE, pE, rfl, hbE⟩
          have HBE := Lib.hid ((HB.out).trans (hbE.mono (HB.out).size))
          have HKE := Lib.hid ((HK1r.out).below hbE (HK1r.out).lt)
          clear hbE
          have y0 := (HKE.out).cell 0
          have y1 := (HKE.out).cell 1
          have f0 := (HKE.out).frozen 0
          have f1 := (HKE.out).frozen 1
          obtain ⟨W9, hW9⟩ : ∃ W9, W9 = (wE.setCell ⟨w.heap.size, 0, none⟩ (.int .i64 0)).setCell ⟨w.heap.size, 1, none⟩ (.slice none 0 0) := ⟨_, rfl⟩
          have x9 : Blk W9 w.heap.size 31 #[.int .i64 0, .slice none 0 0] := by rw [hW9]; exact ((HKE.out).set_ 0 _).set_ 1 _
          have HB9 := Lib.hid (show Below w.heap.size w W9 by rw [hW9]; exact ((HBE.out).setCell (Nat.le_refl _) _).setCell (Nat.le_refl _) _)
          have x90 := x9.cell 0
          have x91 := x9.cell 1
          have HW9 := Lib.hid hW9
          clear hW9 x9
          go_wp2_with fail
          rw [← HW9.out]
          exact bodyPost_ret (v := .tuple #[.agg #[.int .i64 0, .slice none 0 0], .iface tE (.pointer (some pE))]) (by simp [results, Tryz.results12, go_sem, x90, x91]) rfl ⟨_, _, _, rfl, HB9.out, .inl ⟨⟨_, _, rfl⟩, rfl, rfl⟩⟩
        subst hkm
        obtain ⟨p2, hp2⟩ := HX.out.2.2.2.2.1.below HB.out
        obtain ⟨p3, hp3⟩ := HX.out.2.2.2.2.2.below HB.out
        have CK := Lib.hid (check_any (v := v) (c := cl) HKK.out hp3 hp2 (fun _ x hx => by have := HXL.out x hx; omega) (clsr_of_own HCS.out) (Nat.le_refl _))
        clear hp2 hp3
        go_wp2_with fail
        refine CK.out.mono ?_
        rintro e w8 ⟨ev, rfl, hb8, hres⟩
        have HB8 := Lib.hid (HB.out.trans (hb8.mono HB.out.size))
        have HK18 := Lib.hid (HK1r.out.below hb8 HK1r.out.lt)
        have HKF8 := Lib.hid (HKFr.out.below hb8 HKFr.out.lt)
        have HCS8 := Lib.hid (HCS.out.chg hb8)
        clear hb8 y0 y1
        rcases hres with ⟨hok, rfl⟩ | ⟨_, tE, pE, rfl⟩
        case inr =>
          have y0 := (HK18.out).cell 0
          have y1 := (HK18.out).cell 1
          have f0 := (HK18.out).frozen 0
          have f1 := (HK18.out).frozen 1
          obtain ⟨W9, hW9⟩ : ∃ W9, W9 = (w8.setCell ⟨w.heap.size, 0, none⟩ (.int .i64 0)).setCell ⟨w.heap.size, 1, none⟩ (.slice none 0 0) := ⟨_, rfl⟩
          have x9 : Blk W9 w.heap.size 31 #[.int .i64 0, .slice none 0 0] := by rw [hW9]; exact ((HK18.out).set_ 0 _).set_ 1 _
          have HB9 := Lib.hid (show Below w.heap.size w W9 by rw [hW9]; exact ((HB8.out).setCell (Nat.le_refl _) _).setCell (Nat.le_refl _) _)
          have x90 := x9.cell 0
          have x91 := x9.cell 1
          have HW9 := Lib.hid hW9
          clear hW9 x9
          go_wp2_with fail
          rw [← HW9.out]
          exact bodyPost_ret (v := .tuple #[.agg #[.int .i64 0, .slice none 0 0], .iface tE (.pointer (some pE))]) (by simp [results, Tryz.results12, go_sem, x90, x91]) rfl ⟨_, _, _, rfl, HB9.out, .inl ⟨⟨_, _, rfl⟩, rfl, rfl⟩⟩
        have HOK := Lib.hid hok
        have z0 := HKF8.out.cell 0
        have z1 := HKF8.out.cell 1
        have HC9 := Lib.hid (((HCS8.out.far HK18.out (by decide) (by decide) 0 (.int .i64 v)).far (HK18.out.set_ 0 _) (by decide) (by decide) 1 (.slice Al n1 cl)))
        have hdr : l0.data.toList = hdL v cs.length := by
          have h1 := HWJ.out
          have ha : a.data.toList = [112] := by rw [← ByteArray.toList_eq]; simpa using HQ.out.1
          have hb : b.data.toList = [99, 110, 102] := by rw [← ByteArray.toList_eq]; simpa using HQ.out.2
          simp only [List.map_cons, List.map_nil, ha, hb, ← HN1.out.2, ← HN2.out.2] at h1
          rw [← h1, Rd.head_join, HKK.out]; rfl
        have htl : lr.map (·.data.toList) = cs.map Rd.txC := by
          have h1 := HTX.out
          rwa [List.take_of_length_le (by have := HN1L.out; omega)] at h1
        have HLN := Lib.hid (And.intro hdr htl)
        clear hok hdr htl
        have y0 := (HK18.out).cell 0
        have y1 := (HK18.out).cell 1
        have f0 := (HK18.out).frozen 0
        have f1 := (HK18.out).frozen 1
        obtain ⟨W9, hW9⟩ : ∃ W9, W9 = (w8.setCell ⟨w.heap.size, 0, none⟩ (.int .i64 v)).setCell ⟨w.heap.size, 1, none⟩ (.slice Al n1 cl) := ⟨_, rfl⟩
        have x9 : Blk W9 w.heap.size 31 #[.int .i64 v, .slice Al n1 cl] := by rw [hW9]; exact ((HK18.out).set_ 0 _).set_ 1 _
        have HB9 := Lib.hid (show Below w.heap.size w W9 by rw [hW9]; exact ((HB8.out).setCell (Nat.le_refl _) _).setCell (Nat.le_refl _) _)
        have x90 := x9.cell 0
        have x91 := x9.cell 1
        have HD9 := Lib.hid (show CsAt W9 W6.heap.size (.slice Al n1 cl) cs by rw [hW9]; exact HC9.out)
        have HW9 := Lib.hid hW9
        clear hW9 x9
        go_wp2_with fail
        rw [← HW9.out]
        exact bodyPost_ret (v := .tuple #[.agg #[.int .i64 v, .slice Al n1 cl], .nilIface]) (by simp [results, Tryz.results12, go_sem, x90, x91]) rfl ⟨_, _, _, rfl, HB9.out, .inr ⟨rfl, cs, Al, cl, lns.map (·.data.toList), by rw [HKK.out], clsr_of_own (n := n1) HD9.out, HOK.out, HXL.out, HJ.out, by rw [HL0.out, List.map_cons, HLN.out.1, HLN.out.2]⟩⟩
end Go.Proofs.YtaedbnbeelkkcaaGreatDoor
