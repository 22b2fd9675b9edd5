/-
  THE WALK of the reference's CnfOf: the document's answer to cnf.Of.
-/
import Derived.Test.YtmbjhpgemphmmaaDoorCf
import Derived.Test.YtmbjhpgemphmmaaDoorCq
namespace Go.Proofs.YtmbjhpgemphmmaaDoor
open Go.RowKit
set_option maxRecDepth 100000 in
theorem sign_lit {w : World} {base gm : Nat} {nl : List Bool} (hm : w.ownsRow base 3 1 (.slice (some ⟨gm, 0, none⟩) nl.length nl.length) nl.length (natVals (Cn.nums nl))) {a : Nat} (ha : a / 2 < nl.length) (hn : nl.length ≤ 100000) :
    Calls Tryd.prog 65 #[.slice (some ⟨gm, 0, none⟩) nl.length nl.length, .int .i64 a] w fun e w' => e = .returned (.int .i64 (Cn.litN nl a)) ∧ w = w' := by
  obtain ⟨u, hu, c0⟩ := own_cell (k := a / 2) hm ha
  obtain rfl : Value.int .i64 (Cn.numAt nl (a / 2) : Nat) = u := by
    rw [natVals_at (litNumAt ha)] at hu; injection hu
  obtain ⟨q, hq⟩ : ∃ q, a / 2 = q := ⟨_, rfl⟩
  rw [hq] at c0 ha
  have hv := numAt_le nl q
  have he : Cn.litN nl a = if a % 2 = 1 then -((Cn.numAt nl q : Nat) : Int) else (Cn.numAt nl q : Nat) := by unfold Cn.litN; rw [hq]
  have HE := Lib.hid he
  obtain ⟨z, hz⟩ : ∃ z, Cn.numAt nl q = z := ⟨_, rfl⟩
  rw [hz] at c0 hv
  have HZ := Lib.hid hz
  have hd : (a : Int) / 2 = (q : Int) := by omega
  have hqI : (q : Int) < (nl.length : Int) := by omega
  have ha2 : a ≤ 200001 := by omega
  clear hm hu he hz
  rcases Nat.mod_two_eq_zero_or_one a with ho | ho
  · have hoI : (a : Int) % 2 = 0 := by omega
    go_enter Tryd.func65, Tryd.ntmps65
    go_wp2_with fail
    go_ret
    rw [HE.out, if_neg (by omega), HZ.out]
    exact ⟨rfl, rfl⟩
  · have hoI : (a : Int) % 2 = 1 := by omega
    go_enter Tryd.func65, Tryd.ntmps65
    go_wp2_with fail
    go_ret
    rw [HE.out, if_pos (by omega), HZ.out]
    exact ⟨rfl, rfl⟩
theorem sign_lit_n {w : World} {base gm m : Nat} {nl : List Bool} (e : nl.length = m) (hm : intOwn w base (.slice (some ⟨gm, 0, none⟩) m m) m (Cn.nums nl)) {a : Nat} (ha : a / 2 < m) (hn : m ≤ 100000) :
    Calls Tryd.prog 65 #[.slice (some ⟨gm, 0, none⟩) m m, .int .i64 a] w fun e w' => e = .returned (.int .i64 (Cn.litN nl a)) ∧ w = w' := by
  subst e; exact sign_lit hm ha hn
set_option maxRecDepth 100000 in
theorem run_make_ints1' (n : Nat) (hn : n ≤ 1000000) (w : World) : (Instr.makeSlice 37 (.int .i64 ((n : Int) + 1)) (.int .i64 ((n : Int) + 1))).run Tryd.prog w =
    .ok (.slice (some ⟨w.heap.size, 0, none⟩) (n + 1) (n + 1)) (w.alloc (.cells (natVals (List.replicate (n + 1) 0)).toArray 3)) := by
  rw [Int.add_comm]; exact run_make_ints1 n hn w
/-- roots are marked -/
def CgR1 (W : World) (gs : List Gm.Gate) (rs : List Nat) (gn : Nat) (iv : Value) (wr : World) : Prop :=
  ∃ (k : Nat) (nl : List Bool), k ≤ rs.length ∧ iv = .int .i64 k ∧ Cn.Seeds gs rs nl k ∧ Below W.heap.size W wr ∧ Blk wr W.heap.size 73 #[.int .i64 0, .slice none 0 0] ∧
    wr.ownsRow W.heap.size 4 1 (.slice (some ⟨gn, 0, none⟩) (gs.length + 1) (gs.length + 1)) (gs.length + 1) (boolVals nl)
/-- downwards -/
def CgR2 (W : World) (gs : List Gm.Gate) (rs : List Nat) (gn : Nat) (iv : Value) (wr : World) : Prop :=
  ∃ (n : Nat) (nl : List Bool), n ≤ gs.length ∧ iv = .int .i64 n ∧ Cn.Down gs rs nl n ∧ Below W.heap.size W wr ∧ Blk wr W.heap.size 73 #[.int .i64 0, .slice none 0 0] ∧
    wr.ownsRow W.heap.size 4 1 (.slice (some ⟨gn, 0, none⟩) (gs.length + 1) (gs.length + 1)) (gs.length + 1) (boolVals nl)
/-- numbers; 'need' is what the row holds, nl is it without place 0 -/
def CgR3 (W : World) (gs : List Gm.Gate) (need nl : List Bool) (gn bf gm : Nat) (iv : Value) (wr : World) : Prop :=
  ∃ k q : Nat, 1 ≤ k ∧ k ≤ gs.length + 1 ∧ q = Cn.cnt nl k ∧ iv = .int .i64 k ∧ Below W.heap.size W wr ∧ Blk wr W.heap.size 73 #[.int .i64 0, .slice none 0 0] ∧
    wr.ownsRow W.heap.size 4 1 (.slice (some ⟨gn, 0, none⟩) (gs.length + 1) (gs.length + 1)) (gs.length + 1) (boolVals need) ∧ Blk wr bf 73 #[.int .i64 (q : Int), .slice none 0 0] ∧
    intOwn wr W.heap.size (.slice (some ⟨gm, 0, none⟩) (gs.length + 1) (gs.length + 1)) (gs.length + 1) (Cn.numTo nl k)
/-- the gates' clauses -/
def CgR4 (W : World) (gs : List Gm.Gate) (need nl : List Bool) (gn bf gm : Nat) (iv : Value) (wr : World) : Prop :=
  ∃ (i : Nat) (v : Value), i ≤ gs.length ∧ iv = .int .i64 ((i : Int) + 1) ∧ Below W.heap.size W wr ∧ Blk wr W.heap.size 73 #[.int .i64 0, .slice none 0 0] ∧
    wr.ownsRow W.heap.size 4 1 (.slice (some ⟨gn, 0, none⟩) (gs.length + 1) (gs.length + 1)) (gs.length + 1) (boolVals need) ∧ Blk wr bf 73 #[.int .i64 (Cn.cnt nl (gs.length + 1) : Nat), v] ∧
    intOwn wr W.heap.size (.slice (some ⟨gm, 0, none⟩) (gs.length + 1) (gs.length + 1)) (gs.length + 1) (Cn.nums nl) ∧ CsAt wr W.heap.size v (Cn.gatesC nl 0 (gs.take i))
/-- the roots' clauses -/
def CgR5 (W : World) (gs : List Gm.Gate) (nl : List Bool) (rs : List Nat) (bf gm : Nat) (iv : Value) (wr : World) : Prop :=
  ∃ (k : Nat) (v : Value), k ≤ rs.length ∧ iv = .int .i64 k ∧ Below W.heap.size W wr ∧ Blk wr W.heap.size 73 #[.int .i64 0, .slice none 0 0] ∧ Blk wr bf 73 #[.int .i64 (Cn.cnt nl (gs.length + 1) : Nat), v] ∧
    intOwn wr W.heap.size (.slice (some ⟨gm, 0, none⟩) (gs.length + 1) (gs.length + 1)) (gs.length + 1) (Cn.nums nl) ∧ CsAt wr W.heap.size v (Cn.gatesC nl 0 gs ++ Cn.rootsC nl (rs.take k))
/-- what the reference's CnfOf answers -/
def CgP (W : World) (gs : List Gm.Gate) (rs : List Nat) (e : Ending) (w' : World) : Prop :=
  ∃ (nl : List Bool) (Ac An : Option Addr) (cc cn : Nat), (∀ n, nl[n]? = some true ↔ (1 ≤ n ∧ Cn.Reach gs rs n)) ∧ nl.length = gs.length + 1 ∧
    e = .returned (.tuple #[.agg #[.int .i64 (Cn.cnt nl (gs.length + 1) : Nat), .slice Ac (Cn.clausesC gs nl rs).length cc], .slice An (gs.length + 1) cn]) ∧ Below W.heap.size W w' ∧
    CsAt w' W.heap.size (.slice Ac (Cn.clausesC gs nl rs).length cc) (Cn.clausesC gs nl rs) ∧ intOwn w' W.heap.size (.slice An (gs.length + 1) cn) (gs.length + 1) (Cn.nums nl)
/-- clauses appended, and laid into the formula -/
theorem cg_push {W wz w6 : World} {bf gm m q : Nat} {v v' : Value} {cs new : List (List Int)} {rows news : List Value} {xs : List Nat} {o : Obj}
    (hb : Below W.heap.size W wz) (hbx : Blk wz W.heap.size 73 #[.int .i64 0, .slice none 0 0]) (hbf : Blk wz bf 73 #[.int .i64 (q : Nat), v]) (hlt : W.heap.size < bf)
    (hom : intOwn wz W.heap.size (.slice (some ⟨gm, 0, none⟩) m m) m xs)
    (hrow : wz.ownsRow W.heap.size 42 1 v cs.length rows) (hcl : ∀ (i : Nat) (l : List Int), cs[i]? = some l → ∃ u, rows[i]? = some u ∧ wz.ownsRow W.heap.size 3 1 u l.length (litVals l))
    (hnew : ∀ (i : Nat) (l : List Int), new[i]? = some l → ∃ u, news[i]? = some u ∧ wz.ownsRow W.heap.size 3 1 u l.length (litVals l))
    (hg : (wz.alloc o).grownBy w6 v.ownBlock) (hown : w6.ownsRow W.heap.size 42 1 v' (cs.length + new.length) (rows ++ news)) :
    Below W.heap.size W (w6.setCell ⟨bf, 1, none⟩ v') ∧ Blk (w6.setCell ⟨bf, 1, none⟩ v') W.heap.size 73 #[.int .i64 0, .slice none 0 0] ∧ Blk (w6.setCell ⟨bf, 1, none⟩ v') bf 73 #[.int .i64 (q : Nat), v'] ∧
    intOwn (w6.setCell ⟨bf, 1, none⟩ v') W.heap.size (.slice (some ⟨gm, 0, none⟩) m m) m xs ∧ CsAt (w6.setCell ⟨bf, 1, none⟩ v') W.heap.size v' (cs ++ new) ∧
    ∀ u n ys, wz.ownsRow W.heap.size 4 1 u n ys → (w6.setCell ⟨bf, 1, none⟩ v').ownsRow W.heap.size 4 1 u n ys := by
  have hb6 := own_grown_below hb hrow (Nat.le_refl _) hg
  have hbx6 := (hbx.alloc o).grown hg (own_blk_ne hrow hbx (by decide)).symm
  have hbf6 := (hbf.alloc o).grown hg (own_blk_ne hrow hbf (by decide)).symm
  have hom6 : intOwn w6 W.heap.size (.slice (some ⟨gm, 0, none⟩) m m) m xs := own_kept1 hom hrow (by decide) hg
  refine ⟨hb6.setCell (by show W.heap.size ≤ bf; omega) _, hbx6.far (p := ⟨bf, 1, none⟩) (by show W.heap.size ≠ bf; omega) _, hbf6.set_ 1 v', own_far hom6 _ (own_blk_ne hom6 hbf6 (by decide)),
    (CsAt.more hrow hcl hnew hg hown).far hbf6 (by decide) (by decide) 1 v', fun u n ys hu => ?_⟩
  have hu6 := own_kept1 hu hrow (by decide) hg
  exact own_far hu6 _ (own_blk_ne hu6 hbf6 (by decide))
set_option maxRecDepth 100000 in
set_option maxHeartbeats 8000000 in
theorem cref_any {w : World} {B b : Nat} {gs : List Gm.Gate} (hm : ModelAt w B b gs) (hw : Gm.Wf gs) {A : Option Addr} {c BR : Nat} {rs : List Nat} (hr : Reads w BR 1 A rs.length (natVals rs)) (hBR : BR ≤ w.heap.size) (hh : ∀ r ∈ rs, Gm.has gs r) (hl : rs.length ≤ 100) (hg : gs.length ≤ 90000) :
    Calls Tryd.prog 27 #[.pointer (some ⟨b, 0, none⟩), .slice A rs.length c] w (CgP w gs rs) := by
  obtain ⟨W1, hW1⟩ : ∃ W1, W1 = w.alloc (.cells #[.int .i64 0, .slice none 0 0] 73) := ⟨_, rfl⟩
  have b1 : Blk W1 w.heap.size 73 #[.int .i64 0, .slice none 0 0] := by rw [hW1]; exact Blk.new w _ _
  have hbw1 : Below w.heap.size w W1 := by rw [hW1]; exact (Below.refl _ _).alloc (Nat.le_refl _) _
  have hmk := run_make_bools gs.length (by omega) W1
  obtain ⟨Am, cm, c0, _, _⟩ := (hm.new hbw1).row
  have HM := Lib.hid hm
  have HR := Lib.hid hr
  have HBR := Lib.hid hBR
  have HH := Lib.hid hh
  have HWF := Lib.hid hw
  have HW1 := Lib.hid hW1
  have HB1 := Lib.hid b1
  have HBW1 := Lib.hid hbw1
  clear hm hw hr hBR hh hW1 b1 hbw1
  go_enter Tryd.func27, Tryd.ntmps27
  go_upto_region 1 with fail
  rw [← HW1.out]
  go_wp2_with fail
  go_loopw [7] (fun iv wr => CgR1 w gs rs W1.heap.size iv wr) (fun iv _ => rs.length - (intOf iv).toNat)
  case atStart =>
    exact ⟨0, _, Nat.zero_le _, rfl, Cn.seeds_start gs rs, HBW1.out.alloc HBW1.out.size _, HB1.out.alloc _, own_full HBW1.out.size (by simp [boolVals]) (by omega)⟩
  case round =>
    clear hmk c0
    obtain ⟨k, nl, hk, rfl, hs, hb, hbx, hon⟩ := hrel
    by_cases hkl : k < rs.length
    · obtain ⟨x, hx⟩ : ∃ x, rs[k]? = some x := ⟨_, List.getElem?_eq_getElem hkl⟩
      obtain ⟨ad, hA, hadb, hcell⟩ := HR.out.2 (by omega)
      subst hA
      have cx := (hb.cell (p := ad.add k) (by rw [block_of_add]; have := HBR.out; omega)).trans (hcell k _ (natVals_at hx))
      have hxh := HH.out x (List.mem_of_getElem? hx)
      obtain ⟨y, hy⟩ : ∃ y : Nat, x / 2 = y := ⟨_, rfl⟩
      have hxy : (x : Int) / 2 = (y : Int) := by omega
      have hx0 : x ≤ 1000000 := by unfold Gm.has at hxh; omega
      have hyl : y < gs.length + 1 := by unfold Gm.has at hxh; omega
      have hylI : (y : Int) < (gs.length : Int) + 1 := by omega
      obtain ⟨u, hu, cy⟩ := own_cell (k := y) hon hyl
      have fy := own_unfrozen (k := y) hon
      have HS := Lib.hid (Cn.seeds_step hs hx hxh)
      have HY := Lib.hid hy
      have HB := Lib.hid hb
      have HBX := Lib.hid hbx
      have HON := Lib.hid hon
      clear hs hx hcell hxh hy hb hbx hon hu
      go_wp2_with fail
      go_roundw
      case rel =>
        refine ⟨k + 1, _, by omega, by go_num, HS.out, HB.out.setCell HBW1.out.size _, HBX.out.far (p := ⟨W1.heap.size, y, none⟩) (fun e => own_blk_ne HON.out HBX.out (by decide) (by rw [e]; rfl)) _, ?_⟩
        rw [HY.out, boolVals_set]; exact own_set HON.out _
      case measure => simp [intOf]; omega
    · obtain rfl : k = rs.length := by omega
      have HD := Lib.hid (Cn.down_start hs)
      have HB := Lib.hid hb
      have HBX := Lib.hid hbx
      have HON := Lib.hid hon
      obtain ⟨Am', cm', c0, _, _⟩ := (HM.out.new hb).row
      clear hs hb hbx hon
      go_wp2_with fail
      go_loopw [8] (fun iv wr => CgR2 w gs rs W1.heap.size iv wr) (fun iv _ => (intOf iv).toNat)
      case atStart => exact ⟨gs.length, _, Nat.le_refl _, rfl, HD.out, HB.out, HBX.out, HON.out⟩
      case round =>
        clear c0
        obtain ⟨n, nl, hn, rfl, hd, hb, hbx, hon⟩ := hrel
        rcases Nat.eq_zero_or_pos n with h0 | h0
        · subst h0
          obtain ⟨nl', hnl'⟩ : ∃ nl', nl' = nl.set 0 false := ⟨_, rfl⟩
          have hlen := hd.len
          have hlen' : nl'.length = gs.length + 1 := by rw [hnl']; simp [hlen]
          have HSP := Lib.hid (show ∀ n, nl'[n]? = some true ↔ (1 ≤ n ∧ Cn.Reach gs rs n) from fun n => by
            rcases Nat.eq_zero_or_pos n with h0 | h0
            · subst h0
              rw [hnl', List.getElem?_set_self (by omega)]
              constructor
              · intro h; cases h
              · intro h; omega
            · rw [hnl', List.getElem?_set_ne (by omega)]
              exact ⟨fun h => ⟨h0, hd.sound n h0 h⟩, fun h => Cn.down_end hd h0 h.2⟩)
          have HNE := Lib.hid (show ∀ n b, 1 ≤ n → nl[n]? = some b → nl'[n]? = some b from fun n b h1 h2 => by rw [hnl', List.getElem?_set_ne (by omega)]; exact h2)
          have h00 : nl'[0]? = some false := by rw [hnl', List.getElem?_set_self (by omega)]
          have HN1 := Lib.hid (show Cn.numTo nl' 1 = List.replicate (gs.length + 1) 0 by rw [Cn.numTo_skip h00, Cn.numTo_zero, hlen'])
          have HC1 := Lib.hid (show Cn.cnt nl' 1 = 0 by rw [Cn.cnt_succ h00]; simp [Cn.cnt])
          have HLEN := Lib.hid hlen'
          have HLEN0 := Lib.hid hlen
          obtain ⟨W5, hW5⟩ : ∃ W5, W5 = wr.alloc (.cells #[.int .i64 0, .slice none 0 0] 73) := ⟨_, rfl⟩
          have hb5 : Below w.heap.size w W5 := by rw [hW5]; exact hb.alloc hb.size _
          have bf5 : Blk W5 wr.heap.size 73 #[.int .i64 0, .slice none 0 0] := by rw [hW5]; exact Blk.new wr _ _
          have bx5 : Blk W5 w.heap.size 73 #[.int .i64 0, .slice none 0 0] := by rw [hW5]; exact hbx.alloc _
          have on5 := hon.alloc (.cells #[.int .i64 0, .slice none 0 0] 73)
          rw [← hW5] at on5
          have hmk2 := run_make_ints1' gs.length (by omega) W5
          obtain ⟨Am2, cm2, c02, _, _⟩ := (HM.out.new hb5).row
          have HB5 := Lib.hid hb5
          have HBF5 := Lib.hid bf5
          have HBX5 := Lib.hid bx5
          have HON5 := Lib.hid on5
          have HW5 := Lib.hid hW5
          have HLT := Lib.hid (show w.heap.size < wr.heap.size from hbx.lt)
          clear hd hb hbx hon hlen hlen' hnl' h00 hb5 bf5 bx5 on5 hW5
          go_upto_region 14 with fail
          rw [← HW5.out]
          obtain ⟨bf, hbf⟩ : ∃ bf, wr.heap.size = bf := ⟨_, rfl⟩
          rw [hbf] at HBF5 HLT
          rw [hbf]
          clear hbf
          go_wp2_with fail
          go_loopw [12] (fun iv wx => CgR3 w gs nl nl' W1.heap.size bf W5.heap.size iv wx) (fun iv _ => gs.length + 2 - (intOf iv).toNat)
          case atStart =>
            refine ⟨1, 0, Nat.le_refl _, by omega, HC1.out.symm, rfl, HB5.out.alloc HB5.out.size _, HBX5.out.alloc _, HON5.out.alloc _, HBF5.out.alloc _, ?_⟩
            rw [HN1.out]
            exact own_full HB5.out.size (by rw [natVals_length]; simp) (by omega)
          case round =>
            clear hmk2 c02
            obtain ⟨k, q, hk1, hk, hq, rfl, hb, hbx, hon, hbf, hom⟩ := hrel
            obtain ⟨Am3, cm3, c03, _, _⟩ := (HM.out.new hb).row
            by_cases hkl : k ≤ gs.length
            · obtain ⟨bb, hbb⟩ : ∃ bb, nl[k]? = some bb := ⟨_, List.getElem?_eq_getElem (by have := HLEN0.out; omega)⟩
              have cb := bool_cell hon hbb
              have hbb' := HNE.out k bb hk1 hbb
              have hkI : (k : Int) < (gs.length : Int) + 1 := by omega
              have hc := Cn.cnt_succ hbb'
              have hq9 : q ≤ 1000000 := by rw [hq]; have := Cn.cnt_le nl' k; omega
              have HQ := Lib.hid hq
              have HC := Lib.hid hc
              have HBB := Lib.hid hbb'
              have HB := Lib.hid hb
              have HBX := Lib.hid hbx
              have HON := Lib.hid hon
              have HBf := Lib.hid hbf
              have HOM := Lib.hid hom
              cases bb with
              | false =>
                clear hq hb hbx hon hbf hom hc hbb hbb'
                go_wp2_with fail
                go_roundw
                case rel => exact ⟨k + 1, q, by omega, by omega, by rw [HC.out, HQ.out]; simp, by go_num, HB.out, HBX.out, HON.out, HBf.out, by rw [Cn.numTo_skip HBB.out]; exact HOM.out⟩
                case measure => simp [intOf]; omega
              | true =>
                have hq1 : Cn.numAt nl' k = q + 1 := by unfold Cn.numAt; rw [if_pos hbb', hc, hq]; rfl
                obtain ⟨W6, hW6⟩ : ∃ W6, W6 = wr.setCell ⟨bf, 0, none⟩ (.int .i64 ((q : Int) + 1)) := ⟨_, rfl⟩
                have hown6 : W6.ownsRow w.heap.size 4 1 (.slice (some ⟨W1.heap.size, 0, none⟩) (gs.length + 1) (gs.length + 1)) (gs.length + 1) (boolVals nl) := by
                  rw [hW6]; exact own_far hon _ (own_blk_ne hon hbf (by decide))
                have hom6 : intOwn W6 w.heap.size (.slice (some ⟨W5.heap.size, 0, none⟩) (gs.length + 1) (gs.length + 1)) (gs.length + 1) (Cn.numTo nl' k) := by
                  rw [hW6]; exact own_far hom _ (own_blk_ne hom hbf (by decide))
                have hbf6 : Blk W6 bf 73 #[.int .i64 ((q : Int) + 1), .slice none 0 0] := by rw [hW6]; exact hbf.set_ 0 _
                have hbx6 : Blk W6 w.heap.size 73 #[.int .i64 0, .slice none 0 0] := by
                  rw [hW6]; exact hbx.far (p := ⟨bf, 0, none⟩) (by show w.heap.size ≠ bf; have := HLT.out; omega) _
                have hb6 : Below w.heap.size w W6 := by rw [hW6]; exact hb.setCell (by show w.heap.size ≤ bf; have := HLT.out; omega) _
                have c0 := hbf.cell 0
                have f0 := hbf.frozen 0
                have c2 : (wr.setCell ⟨bf, 0, none⟩ (.int .i64 ((q : Int) + 1))).cell? ⟨bf, 0, none⟩ = some (.int .i64 ((q : Int) + 1)) := by rw [← hW6]; exact hbf6.cell 0
                obtain ⟨u, _, c3⟩ := own_cell (k := k) hom6 (by omega)
                rw [hW6] at c3
                have f3 : (wr.setCell ⟨bf, 0, none⟩ (.int .i64 ((q : Int) + 1))).frozen? ⟨W5.heap.size, k, none⟩ = false := by rw [← hW6]; exact own_unfrozen (k := k) hom6
                have HW6 := Lib.hid hW6
                have HQ1 := Lib.hid hq1
                have HOM6 := Lib.hid hom6
                have HON6 := Lib.hid hown6
                have HBf6 := Lib.hid hbf6
                have HBX6 := Lib.hid hbx6
                have HB6 := Lib.hid hb6
                clear hq hb hbx hon hbf hom hc hbb hbb' hq1 hW6 hown6 hom6 hbf6 hbx6 hb6
                go_wp2_with fail
                rw [← HW6.out]
                go_roundw
                case rel =>
                  refine ⟨k + 1, q + 1, by omega, by omega, by rw [HC.out, HQ.out]; simp, by go_num, HB6.out.setCell HB5.out.size _, HBX6.out.far (p := ⟨W5.heap.size, k, none⟩) ?_ _, own_far HON6.out _ ?_, HBf6.out.far (p := ⟨W5.heap.size, k, none⟩) ?_ _, ?_⟩
                  · intro e; exact own_blk_ne HOM6.out HBX6.out (by decide) (by rw [e]; rfl)
                  · rcases own_own_ne HON6.out HOM6.out (by decide) with h | h
                    · rw [h]; simp
                    · exact h
                  · intro e; exact own_blk_ne HOM6.out HBf6.out (by decide) (by rw [e]; rfl)
                  · show intOwn _ _ _ _ _
                    unfold intOwn
                    rw [Cn.numTo_succ (by have := HLEN.out; omega), natVals_set, HQ1.out]
                    exact own_set HOM6.out _
                case measure => simp [intOf]; omega
            · obtain rfl : k = gs.length + 1 := by omega
              have hnum : Cn.numTo nl' (gs.length + 1) = Cn.nums nl' := by unfold Cn.nums; rw [HLEN.out]
              rw [hnum] at hom
              rw [hq] at hbf
              have HB := Lib.hid hb
              have HBX := Lib.hid hbx
              have HON := Lib.hid hon
              have HBf := Lib.hid hbf
              have HOM := Lib.hid hom
              obtain ⟨ki, hki⟩ : ∃ ki : Int, ((gs.length + 1 : Nat) : Int) = ki := ⟨_, rfl⟩
              rw [hki]
              have hki2 : ¬ ki ≤ (gs.length : Int) := by omega
              clear hki hq hb hbx hon hbf hom hnum
              go_wp2_with fail
              go_loopw [13] (fun iv wx => CgR4 w gs nl nl' W1.heap.size bf W5.heap.size iv wx) (fun iv _ => gs.length + 2 - (intOf iv).toNat)
              case atStart => exact ⟨0, .slice none 0 0, by omega, rfl, HB.out, HBX.out, HON.out, HBf.out, HOM.out, by simpa [Cn.gatesC] using CsAt.nil _ _⟩
              case round =>
                clear c03
                obtain ⟨i, v, hi, rfl, hb, hbx, hon, hbf, hom, hcs⟩ := hrel
                obtain ⟨Am4, cm4, c04, _, hrow⟩ := (HM.out.new hb).row
                by_cases hil : i < gs.length
                · obtain ⟨⟨ga, gb, gi⟩, hgi⟩ : ∃ g, gs[i]? = some g := ⟨_, List.getElem?_eq_getElem hil⟩
                  obtain ⟨blk, hA, hlt, d0, d1, d2⟩ := hrow i _ hgi
                  subst hA
                  obtain ⟨W6, hW6⟩ : ∃ W6, W6 = wr.alloc (.cells #[.int .i64 ga, .int .i64 gb, .bool gi] 126) := ⟨_, rfl⟩
                  have hnew : Below wr.heap.size wr W6 := by rw [hW6]; exact (Below.refl _ _).alloc (Nat.le_refl _) _
                  have x0 : W6.cell? ⟨wr.heap.size, 0, none⟩ = some (.int .i64 ga) := by rw [hW6, (Blk.new wr _ _).cell 0]; rfl
                  have x1 : W6.cell? ⟨wr.heap.size, 1, none⟩ = some (.int .i64 gb) := by rw [hW6, (Blk.new wr _ _).cell 1]; rfl
                  have x2 : W6.cell? ⟨wr.heap.size, 2, none⟩ = some (.bool gi) := by rw [hW6, (Blk.new wr _ _).cell 2]; rfl
                  have hb6 : Below w.heap.size w W6 := hb.trans (hnew.mono hb.size)
                  have hbx6 : Blk W6 w.heap.size 73 #[.int .i64 0, .slice none 0 0] := by rw [hW6]; exact hbx.alloc _
                  have hbf6 : Blk W6 bf 73 #[.int .i64 (Cn.cnt nl' (gs.length + 1) : Nat), v] := by rw [hW6]; exact hbf.alloc _
                  have hon6 : W6.ownsRow w.heap.size 4 1 (.slice (some ⟨W1.heap.size, 0, none⟩) (gs.length + 1) (gs.length + 1)) (gs.length + 1) (boolVals nl) := by rw [hW6]; exact hon.alloc _
                  have hom6 : intOwn W6 w.heap.size (.slice (some ⟨W5.heap.size, 0, none⟩) (gs.length + 1) (gs.length + 1)) (gs.length + 1) (Cn.nums nl') := by rw [hW6]; exact World.ownsRow.alloc hom _
                  have hcs6 : CsAt W6 w.heap.size v (Cn.gatesC nl' 0 (gs.take i)) := hcs.chg hnew
                  obtain ⟨bb, hbb⟩ : ∃ bb, nl[i + 1]? = some bb := ⟨_, List.getElem?_eq_getElem (by have := HLEN0.out; omega)⟩
                  have cb := bool_cell hon6 hbb
                  have hbb' := HNE.out (i + 1) bb (by omega) hbb
                  obtain ⟨u, hu, c6⟩ := own_cell (k := i + 1) hom6 (by omega)
                  obtain rfl : Value.int .i64 (Cn.numAt nl' (i + 1) : Nat) = u := by
                    rw [natVals_at (litNumAt (by have := HLEN.out; omega))] at hu; injection hu
                  have hz := numAt_le nl' (i + 1)
                  rw [HLEN.out] at hz
                  obtain ⟨z, hzz⟩ : ∃ z, Cn.numAt nl' (i + 1) = z := ⟨_, rfl⟩
                  rw [hzz] at c6 hz
                  have hz9 : z ≤ 100000 := by omega
                  have hiI : (i : Int) < (gs.length : Int) := by omega
                  have hn1 : IntKind.i64.wrap ((i : Int) + 1 - 1) = (i : Int) := by rw [IntKind.wrap_i64]; omega
                  have HZ := Lib.hid hzz
                  have HGI := Lib.hid hgi
                  have HB6 := Lib.hid hb6
                  have HBX6 := Lib.hid hbx6
                  have HBf6 := Lib.hid hbf6
                  have HON6 := Lib.hid hon6
                  have HOM6 := Lib.hid hom6
                  have HCS6 := Lib.hid hcs6
                  have HW6 := Lib.hid hW6
                  have HBB := Lib.hid hbb'
                  clear hzz hu hz hb hbx hon hbf hom hcs hgi hrow hnew hb6 hbx6 hon6 hbf6 hom6 hcs6 hW6 hbb hbb'
                  go_upto_region 25 with fail
                  rw [← HW6.out]
                  cases bb with
                  | false =>
                    go_wp2_with fail
                    go_roundw
                    case rel =>
                      refine ⟨i + 1, v, by omega, by go_num, HB6.out, HBX6.out, HON6.out, HBf6.out, HOM6.out, ?_⟩
                      have h0 : Cn.gateC nl' i ⟨ga, gb, gi⟩ = [] := by unfold Cn.gateC; rw [if_neg]; rw [HBB.out]; simp
                      rw [gatesC_step HGI.out, h0, List.append_nil]; exact HCS6.out
                    case measure => simp [intOf]; omega
                  | true =>
                    cases gi with
                    | true =>
                      go_wp2_with fail
                      go_roundw
                      case rel =>
                        refine ⟨i + 1, v, by omega, by go_num, HB6.out, HBX6.out, HON6.out, HBf6.out, HOM6.out, ?_⟩
                        have h0 : Cn.gateC nl' i ⟨ga, gb, true⟩ = [] := by unfold Cn.gateC; rw [if_neg]; simp
                        rw [gatesC_step HGI.out, h0, List.append_nil]; exact HCS6.out
                      case measure => simp [intOf]; omega
                    | false =>
                      obtain ⟨g1, g2, g3⟩ := HWF.out.ahead i _ HGI.out rfl
                      simp only at g1 g2 g3
                      have la := litN_le nl' ga
                      have lb := litN_le nl' gb
                      rw [HLEN.out] at la lb
                      have SA := Lib.hid (sign_lit_n HLEN.out HOM6.out (a := ga) (by omega) (by omega))
                      have SB := Lib.hid (sign_lit_n HLEN.out HOM6.out (a := gb) (by omega) (by omega))
                      have HCA := Lib.hid (show Cn.gateC nl' i ⟨ga, gb, false⟩ = [[-(z : Int), Cn.litN nl' ga], [-(z : Int), Cn.litN nl' gb], [(z : Int), -Cn.litN nl' ga, -Cn.litN nl' gb]] by unfold Cn.gateC; rw [if_pos ⟨HBB.out, rfl⟩, HZ.out])
                      obtain ⟨na, hna⟩ : ∃ na, Cn.litN nl' ga = na := ⟨_, rfl⟩
                      obtain ⟨nb, hnb⟩ : ∃ nb, Cn.litN nl' gb = nb := ⟨_, rfl⟩
                      rw [hna] at SA HCA la
                      rw [hnb] at SB HCA lb
                      have w1 : IntKind.i64.wrap (-(z : Int)) = -(z : Int) := by rw [IntKind.wrap_i64]; omega
                      have w2 : IntKind.i64.wrap (-na) = -na := by rw [IntKind.wrap_i64]; omega
                      have w3 : IntKind.i64.wrap (-nb) = -nb := by rw [IntKind.wrap_i64]; omega
                      have hi1 : (i : Int) + 1 < (gs.length : Int) + 1 := by omega
                      have hi0 : (0 : Int) ≤ (i : Int) + 1 := by omega
                      clear g1 g2 g3 la lb hna hnb
                      go_wp2_with fail
                      refine SA.out.mono ?_
                      rintro e w' ⟨rfl, rfl⟩
                      go_wp2_with fail
                      refine SB.out.mono ?_
                      rintro e w' ⟨rfl, rfl⟩
                      go_wp2_with fail
                      refine wp_region_mv (S := fun w' => w'.cell? ⟨bf, 1, none⟩ = some v ∧ w'.cell? ⟨W5.heap.size, i + 1, none⟩ = some (.int .i64 (z : Nat)) ∧ Blk w' bf 73 #[.int .i64 (Cn.cnt nl' (gs.length + 1) : Nat), v] ∧ intOwn w' w.heap.size (.slice (some ⟨W5.heap.size, 0, none⟩) (gs.length + 1) (gs.length + 1)) (gs.length + 1) (Cn.nums nl')) 28 [.f 0, .f 1, .f 2, .f 3, .f 4, .f 5, .f 6, .f 7, .f 9, .f 10, .f 11, .f 12, .f 13, .f 14, .f 16, .f 17, .f 18, .f 19, .f 20, .f 21, .f 22, .f 23, .all 8 15 24, .t 25, .t 26, .f 27, .t 28] (by kernel_rfl) (by kernel_rfl) (by kernel_rfl) ⟨HBf6.out.drew.cell 1, c6, HBf6.out.drew, World.ownsRow.drew HOM6.out⟩ ?_
                      iterate 22 (refine mv_take _ _ rfl (by kernel_rfl) (fun wv hv => by obtain ⟨hv1, hv2, hv3, hv4⟩ := hv; go_simp; try with_reducible rfl) ?_; simp only [Act.put, List.getElem_toArray, List.getElem_cons_zero, List.getElem_cons_succ, List.setIfInBounds_toArray, List.set_cons_zero, List.set_cons_succ])
                      refine mv_rows3 _ _ _ rfl rfl rfl (by kernel_rfl) (by kernel_rfl) (by kernel_rfl) (by kernel_rfl) (by kernel_rfl) (by kernel_rfl) (by kernel_rfl) 3 [.int .i64 (-(z : Int)), .int .i64 na] [.int .i64 (-(z : Int)), .int .i64 nb] [.int .i64 (z : Int), .int .i64 (-na), .int .i64 (-nb)]
                        ⟨by kernel_rfl, fun wv => by go_simp⟩ ⟨by kernel_rfl, fun wv => by go_simp⟩ ⟨by kernel_rfl, fun wv => by go_simp⟩ (by simp) (by simp) (by simp) ⟨HBf6.out.drew.cell 1, c6, HBf6.out.drew, World.ownsRow.drew HOM6.out⟩
                        (fun wv o h => ⟨(h.2.2.1.alloc o).cell 1, (World.cell?_alloc_lt wv o _ (World.block_lt_of_cell? wv _ h.2.1)).trans h.2.1, h.2.2.1.alloc o, World.ownsRow.alloc h.2.2.2 o⟩) ?_
                      intro n1 n2 n3 w5 o1 o2 o3 hb5 hS5
                      simp only [Act.put, List.getElem_toArray, List.getElem_cons_zero, List.getElem_cons_succ, List.setIfInBounds_toArray, List.set_cons_zero, List.set_cons_succ]
                      have HS5' := Lib.hid hS5
                      have HO5 := Lib.hid (And.intro o1 (And.intro o2 o3))
                      have HB5' := Lib.hid hb5
                      clear hS5 o1 o2 o3 hb5 c6
                      refine mv_act _ rfl (fun K hK => ?_)
                      go_simp
                      go_simp
                      refine hK _ _ (.inr (⟨(HS5'.out.2.2.1.alloc _).cell 1, (World.cell?_alloc_lt w5 _ _ (World.block_lt_of_cell? w5 _ HS5'.out.2.1)).trans HS5'.out.2.1, HS5'.out.2.2.1.alloc _, World.ownsRow.alloc HS5'.out.2.2.2 _⟩)) ?_
                      clear hK K
                      obtain ⟨rows, hrow, hcl⟩ := HCS6.out
                      have hgl := gatesC_le nl' (gs.take i) 0
                      have hgl2 : (gs.take i).length ≤ gs.length := by rw [List.length_take]; omega
                      have hcn : (Cn.gatesC nl' 0 (gs.take i)).length ≤ 300000 := by omega
                      obtain ⟨ic, hic0, hic1, hic2, hic3⟩ := info_parts infoClause_
                      have hrow5 : w5.ownsRow w.heap.size 42 1 v (Cn.gatesC nl' 0 (gs.take i)).length rows := own_chg (S := fun _ _ => False) (World.ownsRow.drew hrow) (Chg.of_new HB5'.out) (fun _ _ _ _ hs => hs)
                      have HROW := Lib.hid hrow5
                      have HCL := Lib.hid hcl
                      have HIC := Lib.hid (And.intro hic0 (And.intro hic1 (And.intro hic2 hic3)))
                      have hs5 : w.heap.size ≤ w5.heap.size := Nat.le_trans HB6.out.size HB5'.out.size
                      clear hrow hcl hgl hgl2 hrow5 hic0 hic1 hic2 hic3
                      refine mv_act _ rfl (fun K hK => ?_)
                      refine step_append_sl _ rfl (.tmp 139) (.tmp 163) _ rfl w.heap.size 42 ic _ 1 24 Tryd.underlying34 HIC.out.1 HIC.out.2.1 HIC.out.2.2.1 HIC.out.2.2.2 rfl (by omega) v (Cn.gatesC nl' 0 (gs.take i)).length rows rfl (HROW.out.alloc _) (w5.heap.size + 1) (some ⟨w5.heap.size, 0, none⟩) 3 3 [.slice (some ⟨n1, 0, none⟩) 2 2, .slice (some ⟨n2, 0, none⟩) 2 2, .slice (some ⟨n3, 0, none⟩) 3 3] rfl (reads_new rfl (by omega) rfl) (by intro u hu; simp only [List.mem_cons, List.not_mem_nil, or_false] at hu; rcases hu with rfl | rfl | rfl <;> rfl) (le_maxLen (by omega)) (le_bytes (by omega) (by omega)) (by simp; omega) ?_
                      intro A6 c6' w6 hown6 hg6
                      have hbf7 := (HS5'.out.2.2.1.alloc _).grown hg6 (own_blk_ne HROW.out HS5'.out.2.2.1 (by decide)).symm
                      have hom7 := own_kept1 HS5'.out.2.2.2 HROW.out (by decide) hg6
                      have hcz : w6.cell? ⟨W5.heap.size, i + 1, none⟩ = some (.int .i64 (z : Nat)) := by
                        obtain ⟨u, hu, hc⟩ := own_cell (k := i + 1) hom7 (by omega)
                        rw [natVals_at (litNumAt (by have := HLEN.out; omega)), HZ.out] at hu
                        injection hu with hu
                        rw [hc, ← hu]
                      refine hK _ _ (.inr (⟨hbf7.cell 1, hcz, hbf7, hom7⟩)) ?_
                      clear hK K
                      try simp only [Act.put, List.getElem_toArray, List.getElem_cons_zero, List.getElem_cons_succ, List.setIfInBounds_toArray, List.set_cons_zero, List.set_cons_succ]
                      iterate 1 (refine mv_take _ _ rfl (by kernel_rfl) (fun wv hv => by obtain ⟨hv1, hv2, hv3, hv4⟩ := hv; go_simp; try with_reducible rfl) ?_; simp only [Act.put, List.getElem_toArray, List.getElem_cons_zero, List.getElem_cons_succ, List.setIfInBounds_toArray, List.set_cons_zero, List.set_cons_succ])
                      have f6 := hbf7.frozen 1
                      have f6c : w6.cell? ⟨bf, 1, none⟩ = some v := hbf7.cell 1
                      refine mv_act _ rfl (fun K hK => ?_)
                      go_simp
                      go_simp
                      refine hK _ _ (.inl rfl) ?_
                      clear hK K
                      refine mv_nil ?_
                      have HOWN6 := Lib.hid hown6
                      have HG6 := Lib.hid hg6
                      clear hown6 hg6 hbf7 hom7 f6 f6c hcz
                      have hbw5 : Below w.heap.size w w5 := (below_drewN HB6.out 1).trans (HB5'.out.mono HB6.out.size)
                      have hbx5 := (HBX6.out.drew).below HB5'.out HBX6.out.lt
                      have hon5 : w5.ownsRow w.heap.size 4 1 (.slice (some ⟨W1.heap.size, 0, none⟩) (gs.length + 1) (gs.length + 1)) (gs.length + 1) (boolVals nl) := own_chg (S := fun _ _ => False) (World.ownsRow.drew HON6.out) (Chg.of_new HB5'.out) (fun _ _ _ _ hs => hs)
                      obtain ⟨p1, p2, p3, p4, p6, p7⟩ := cg_push (new := Cn.gateC nl' i ⟨ga, gb, false⟩) hbw5 hbx5 HS5'.out.2.2.1 HLT.out HS5'.out.2.2.2 HROW.out
                        (fun i' l hl => by
                          obtain ⟨u, h1, h2⟩ := HCL.out i' l hl
                          exact ⟨u, h1, own_chg (S := fun _ _ => False) (World.ownsRow.drew h2) (Chg.of_new HB5'.out) (fun _ _ _ _ hs => hs)⟩)
                        (news := [.slice (some ⟨n1, 0, none⟩) 2 2, .slice (some ⟨n2, 0, none⟩) 2 2, .slice (some ⟨n3, 0, none⟩) 3 3])
                        (fun i' l hl => by
                          rw [HCA.out] at hl
                          obtain ⟨o1, o2, o3⟩ := HO5.out
                          match i', hl with
                          | 0, hl => obtain rfl : [-(z : Int), na] = l := by simpa using hl
                                     exact ⟨_, rfl, own_base o1 HB6.out.size⟩
                          | 1, hl => obtain rfl : [-(z : Int), nb] = l := by simpa using hl
                                     exact ⟨_, rfl, own_base o2 HB6.out.size⟩
                          | 2, hl => obtain rfl : [(z : Int), -na, -nb] = l := by simpa using hl
                                     exact ⟨_, rfl, own_base o3 HB6.out.size⟩)
                        HG6.out (by rw [HCA.out]; exact HOWN6.out)
                      have HP := Lib.hid (And.intro p1 (And.intro p2 (And.intro p3 (And.intro p4 p6))))
                      have HP7 := Lib.hid (p7 _ _ _ hon5)
                      clear hbw5 hbx5 hon5 p1 p2 p3 p4 p6 p7
                      go_wp2_with fail
                      go_roundw
                      case rel =>
                        obtain ⟨p1, p2, p3, p4, p6⟩ := HP.out
                        refine ⟨i + 1, _, by omega, by go_num, p1, p2, HP7.out, p3, p4, ?_⟩
                        rw [gatesC_step HGI.out]; exact p6
                      case measure => simp [intOf]; omega
                · obtain rfl : i = gs.length := by omega
                  rw [List.take_length] at hcs
                  have HB := Lib.hid hb
                  have HBX := Lib.hid hbx
                  have HBf := Lib.hid hbf
                  have HOM := Lib.hid hom
                  have HCS := Lib.hid hcs
                  have hkj2 : ¬ (gs.length : Int) + 1 ≤ (gs.length : Int) := by omega
                  clear hb hbx hon hbf hom hcs hrow
                  go_wp2_with fail
                  go_loopw [17] (fun iv wx => CgR5 w gs nl' rs bf W5.heap.size iv wx) (fun iv _ => rs.length - (intOf iv).toNat)
                  case atStart => exact ⟨0, v, Nat.zero_le _, rfl, HB.out, HBX.out, HBf.out, HOM.out, by simpa [Cn.rootsC] using HCS.out⟩
                  case round =>
                    clear c04
                    obtain ⟨k, v, hk, rfl, hb, hbx, hbf, hom, hcs⟩ := hrel
                    have HB := Lib.hid hb
                    have HBX := Lib.hid hbx
                    have HBf := Lib.hid hbf
                    have HOM := Lib.hid hom
                    by_cases hkl : k < rs.length
                    · obtain ⟨x, hx⟩ : ∃ x, rs[k]? = some x := ⟨_, List.getElem?_eq_getElem hkl⟩
                      obtain ⟨ad, hA, hadb, hcell⟩ := HR.out.2 (by omega)
                      subst hA
                      have HCX := Lib.hid (show ∀ w', Below w.heap.size w w' → w'.cell? (ad.add k) = some (.int .i64 (x : Nat)) from fun w' hb => (hb.cell (p := ad.add k) (by rw [block_of_add]; have := HBR.out; omega)).trans (hcell k _ (natVals_at hx)))
                      have cx := HCX.out _ hb
                      have hxh := HH.out x (List.mem_of_getElem? hx)
                      have hx0 : x / 2 < gs.length + 1 := by unfold Gm.has at hxh; omega
                      have HX := Lib.hid hx
                      obtain ⟨rows, hrow, hcl⟩ := hcs
                      have hgl := gatesC_le nl' gs 0
                      have hrl := rootsC_le nl' (rs.take k)
                      have hrl2 : (rs.take k).length ≤ rs.length := by rw [List.length_take]; omega
                      have hcn : (Cn.gatesC nl' 0 gs ++ Cn.rootsC nl' (rs.take k)).length ≤ 300000 := by rw [List.length_append]; omega
                      obtain ⟨ic, hic0, hic1, hic2, hic3⟩ := info_parts infoClause_
                      have HROW := Lib.hid hrow
                      have HCL := Lib.hid hcl
                      have HIC := Lib.hid (And.intro hic0 (And.intro hic1 (And.intro hic2 hic3)))
                      have hsr := hb.size
                      have c1 := hbf.cell 1
                      clear hx hcell hxh hb hbx hbf hom hrow hcl hgl hrl hrl2 hic0 hic1 hic2 hic3
                      by_cases hx00 : x = 0
                      · have he0 : ((x : Int) == 0) = true := by subst hx00; rfl
                        have he1 : decide ((1 : Int) < (x : Int)) = false := decide_eq_false (by omega)
                        have HX0 := Lib.hid hx00
                        clear hx00
                        go_wp2_with (at_builtin; refine wpList_append_sl _ rfl (.tmp 178) (.tmp 180) _ rfl w.heap.size 42 ic _ 1 24 Tryd.underlying34 HIC.out.1 HIC.out.2.1 HIC.out.2.2.1 HIC.out.2.2.2 rfl (by omega) v _ rows rfl ((HROW.out.alloc _).alloc _) (wr.heap.size + 2) (some ⟨wr.heap.size + 1, 0, none⟩) 1 1 [.slice (some ⟨wr.heap.size, 0, none⟩) 0 0] rfl (reads_new (by simp) (by simp) rfl) (by intro u hu; rw [List.mem_singleton.1 hu]; rfl) (le_maxLen (by omega)) (le_bytes (by omega) (by omega)) (by simp; omega) ?_; intro A6 c6 w6 hown6 hg6; have hbf6 := ((HBf.out.alloc _).alloc _).grown hg6 (own_blk_ne HROW.out HBf.out (by decide)).symm; have c6c := hbf6.cell 1; have c6f := hbf6.frozen 1; have HOWN6 := Lib.hid hown6; have HG6 := Lib.hid hg6; clear hown6 hg6 hbf6; obtain ⟨p1, p2, p3, p4, p6, p7⟩ := cg_push (new := Cn.rootC nl' x) (wz := wr.alloc (.cells #[] 3)) (HB.out.alloc HB.out.size _) (HBX.out.alloc _) (HBf.out.alloc _) HLT.out (World.ownsRow.alloc HOM.out _) (HROW.out.alloc _) (fun i' l hl => (let ⟨u, h1, h2⟩ := HCL.out i' l hl; ⟨u, h1, h2.alloc _⟩)) (news := [.slice (some ⟨wr.heap.size, 0, none⟩) 0 0]) (fun i' l hl => by rw [HX0.out] at hl; match i', hl with | 0, hl => (obtain rfl : [] = l := by simpa [Cn.rootC] using hl); exact ⟨_, rfl, own_full HB.out.size rfl (by simp)⟩) HG6.out (by rw [HX0.out]; exact HOWN6.out); have hP := And.intro p1 (And.intro p2 (And.intro p3 (And.intro p4 p6))); simp only [List.length_append] at hP; have HP := Lib.hid hP; have cx2 := HCX.out _ HP.out.1; clear p1 p2 p3 p4 p6 p7 hP)
                        go_wp2_with fail
                        go_roundw
                        case rel =>
                          obtain ⟨p1, p2, p3, p4, p6⟩ := HP.out
                          exact ⟨k + 1, _, by omega, by go_num, p1, p2, p3, p4, by rw [rootsC_step HX.out, ← List.append_assoc]; exact p6⟩
                        case measure => simp [intOf]; omega
                      · have hne0 : ((x : Int) == 0) = false := by simp; omega
                        by_cases hx01 : x = 1
                        · have he1 : decide ((1 : Int) < (x : Int)) = false := decide_eq_false (by omega)
                          have HX1 := Lib.hid hx01
                          clear hx00 hx01
                          go_wp2_with fail
                          go_roundw
                          case rel => exact ⟨k + 1, v, by omega, by go_num, HB.out, HBX.out, HBf.out, HOM.out, by rw [rootsC_step HX.out]; unfold Cn.rootC; rw [if_neg (by rw [HX1.out]; omega), if_pos HX1.out, List.append_nil]; exact ⟨rows, HROW.out, HCL.out⟩⟩
                          case measure => simp [intOf]; omega
                        · have he1 : decide ((1 : Int) < (x : Int)) = true := decide_eq_true (by omega)
                          have HXN := Lib.hid (And.intro hx00 hx01)
                          clear hx00 hx01
                          go_wp2_with fail
                          refine wp_region_mv (S := fun w' => w'.cell? ⟨bf, 1, none⟩ = some v ∧ w'.cell? (ad.add k) = some (.int .i64 (x : Nat)) ∧ Blk w' bf 73 #[.int .i64 (Cn.cnt nl' (gs.length + 1) : Nat), v] ∧ intOwn w' w.heap.size (.slice (some ⟨W5.heap.size, 0, none⟩) (gs.length + 1) (gs.length + 1)) (gs.length + 1) (Cn.nums nl')) 12 [.f 0, .f 1, .f 2, .f 3, .f 4, .f 5, .f 6, .f 7, .t 8, .t 9, .t 10, .f 11, .t 12] (by kernel_rfl) (by kernel_rfl) (by kernel_rfl) ⟨HBf.out.drew.cell 1, cx, HBf.out.drew, World.ownsRow.drew HOM.out⟩ ?_
                          iterate 7 (refine mv_take _ _ rfl (by kernel_rfl) (fun wv hv => by obtain ⟨hv1, hv2, hv3, hv4⟩ := hv; go_simp; try with_reducible rfl) ?_; simp only [Act.put, List.getElem_toArray, List.getElem_cons_zero, List.getElem_cons_succ, List.setIfInBounds_toArray, List.set_cons_zero, List.set_cons_succ])
                          refine mv_quiet _ _ _ _ rfl (by kernel_rfl) (fun wv hv => by go_simp; try with_reducible rfl) (fun wv hv => sign_lit_n HLEN.out hv.2.2.2 hx0 (by omega)) ?_
                          simp only [Act.put, List.getElem_toArray, List.getElem_cons_zero, List.getElem_cons_succ, List.setIfInBounds_toArray, List.set_cons_zero, List.set_cons_succ]
                          have hb1 : Below w.heap.size w (wr.drew.alloc (.cells #[.int .i64 (Cn.litN nl' x)] 3)) := (below_drewN HB.out 1).alloc HB.out.size _
                          have hb2 : Below w.heap.size w ((wr.drew.alloc (.cells #[.int .i64 (Cn.litN nl' x)] 3)).alloc (.cells #[.slice (some ⟨wr.heap.size, 0, none⟩) 1 1] 42)) := hb1.alloc hb1.size _
                          have HX1 := Lib.hid (HCX.out _ hb1)
                          have HX2 := Lib.hid (HCX.out _ hb2)
                          have HB2 := Lib.hid hb2
                          clear hb1 hb2
                          refine mv_act _ rfl (fun K hK => ?_)
                          go_simp
                          go_simp
                          refine hK _ _ (.inr (⟨(HBf.out.drew.alloc _).cell 1, HX1.out, HBf.out.drew.alloc _, World.ownsRow.alloc (World.ownsRow.drew HOM.out) _⟩)) ?_
                          clear hK K
                          refine mv_act _ rfl (fun K hK => ?_)
                          go_simp
                          go_simp
                          refine hK _ _ (.inr (⟨((HBf.out.drew.alloc _).alloc _).cell 1, HX2.out, (HBf.out.drew.alloc _).alloc _, World.ownsRow.alloc (World.ownsRow.alloc (World.ownsRow.drew HOM.out) _) _⟩)) ?_
                          clear hK K
                          refine mv_act _ rfl (fun K hK => ?_)
                          refine step_append_sl _ rfl (.tmp 189) (.tmp 197) _ rfl w.heap.size 42 ic _ 1 24 Tryd.underlying34 HIC.out.1 HIC.out.2.1 HIC.out.2.2.1 HIC.out.2.2.2 rfl (by omega) v _ rows rfl (((World.ownsRow.drew HROW.out).alloc _).alloc _) (wr.heap.size + 2) (some ⟨wr.heap.size + 1, 0, none⟩) 1 1 [.slice (some ⟨wr.heap.size, 0, none⟩) 1 1] rfl (reads_new (by simp) (by simp) rfl) (by intro u hu; rw [List.mem_singleton.1 hu]; rfl) (le_maxLen (by omega)) (le_bytes (by omega) (by omega)) (by simp; omega) ?_
                          intro A6 c6 w6 hown6 hg6
                          have hbf6 := ((HBf.out.drew.alloc _).alloc _).grown hg6 (own_blk_ne HROW.out HBf.out (by decide)).symm
                          have hom6 := own_kept1 (World.ownsRow.alloc (World.ownsRow.drew HOM.out) _) ((World.ownsRow.drew HROW.out).alloc _) (by decide) hg6
                          have hb6 := own_grown_below ((below_drewN HB.out 1).alloc HB.out.size _) ((World.ownsRow.drew HROW.out).alloc _) (by simp) hg6
                          have hx6 := HCX.out _ hb6
                          refine hK _ _ (.inr (⟨hbf6.cell 1, hx6, hbf6, hom6⟩)) ?_
                          clear hK K
                          try simp only [Act.put, List.getElem_toArray, List.getElem_cons_zero, List.getElem_cons_succ, List.setIfInBounds_toArray, List.set_cons_zero, List.set_cons_succ]
                          iterate 1 (refine mv_take _ _ rfl (by kernel_rfl) (fun wv hv => by obtain ⟨hv1, hv2, hv3, hv4⟩ := hv; go_simp; try with_reducible rfl) ?_; simp only [Act.put, List.getElem_toArray, List.getElem_cons_zero, List.getElem_cons_succ, List.setIfInBounds_toArray, List.set_cons_zero, List.set_cons_succ])
                          have c6c := hbf6.cell 1
                          have c6f := hbf6.frozen 1
                          refine mv_act _ rfl (fun K hK => ?_)
                          go_simp
                          go_simp
                          refine hK _ _ (.inl rfl) ?_
                          clear hK K
                          refine mv_nil ?_
                          have HOWN6 := Lib.hid hown6
                          have HG6 := Lib.hid hg6
                          clear hown6 hg6 c6c c6f hbf6 hom6 hb6 hx6
                          have hnw : Cn.rootC nl' x = [[Cn.litN nl' x]] := by unfold Cn.rootC; rw [if_neg HXN.out.1, if_neg HXN.out.2]
                          obtain ⟨p1, p2, p3, p4, p6, p7⟩ := cg_push (new := Cn.rootC nl' x) (wz := wr.drew.alloc (.cells #[.int .i64 (Cn.litN nl' x)] 3)) ((below_drewN HB.out 1).alloc HB.out.size _) (HBX.out.drew.alloc _) (HBf.out.drew.alloc _) HLT.out (World.ownsRow.alloc (World.ownsRow.drew HOM.out) _) ((World.ownsRow.drew HROW.out).alloc _)
                            (fun i' l hl => by
                              obtain ⟨u, h1, h2⟩ := HCL.out i' l hl
                              exact ⟨u, h1, (World.ownsRow.drew h2).alloc _⟩)
                            (news := [.slice (some ⟨wr.heap.size, 0, none⟩) 1 1])
                            (fun i' l hl => by
                              rw [hnw] at hl
                              match i', hl with
                              | 0, hl => obtain rfl : [Cn.litN nl' x] = l := by simpa using hl
                                         exact ⟨_, rfl, own_full (w := wr.drew) HB.out.size rfl (by simp)⟩)
                            HG6.out (by rw [hnw]; exact HOWN6.out)
                          have hP := And.intro p1 (And.intro p2 (And.intro p3 (And.intro p4 p6)))
                          simp only [List.length_append] at hP
                          have HP := Lib.hid hP
                          clear p1 p2 p3 p4 p6 p7 hnw hP
                          go_wp2_with fail
                          go_roundw
                          case rel =>
                            obtain ⟨p1, p2, p3, p4, p6⟩ := HP.out
                            exact ⟨k + 1, _, by omega, by go_num, p1, p2, p3, p4, by rw [rootsC_step HX.out, ← List.append_assoc]; exact p6⟩
                          case measure => simp [intOf]; omega
                    · obtain rfl : k = rs.length := by omega
                      rw [List.take_length] at hcs
                      obtain ⟨rows, hrow, hcl⟩ := hcs
                      obtain ⟨Av, cv, rfl⟩ := own_form hrow
                      have HCS := Lib.hid (show CsAt wr w.heap.size (.slice Av (Cn.gatesC nl' 0 gs ++ Cn.rootsC nl' rs).length cv) (Cn.clausesC gs nl' rs) from ⟨rows, hrow, hcl⟩)
                      rw [List.length_append] at HCS hbf
                      obtain ⟨W9, hW9⟩ : ∃ W9, W9 = ((wr.setCell ⟨w.heap.size, 0, none⟩ (.int .i64 (Cn.cnt nl' (gs.length + 1) : Nat))).setCell ⟨w.heap.size, 1, none⟩ (.slice Av ((Cn.gatesC nl' 0 gs).length + (Cn.rootsC nl' rs).length) cv)) := ⟨_, rfl⟩
                      have x9 : Blk W9 w.heap.size 73 #[.int .i64 (Cn.cnt nl' (gs.length + 1) : Nat), .slice Av ((Cn.gatesC nl' 0 gs).length + (Cn.rootsC nl' rs).length) cv] := by rw [hW9]; exact (hbx.set_ 0 _).set_ 1 _
                      have hb9 : Below w.heap.size w W9 := by rw [hW9]; exact (hb.setCell (Nat.le_refl _) _).setCell (Nat.le_refl _) _
                      have o9 : intOwn W9 w.heap.size (.slice (some ⟨W5.heap.size, 0, none⟩) (gs.length + 1) (gs.length + 1)) (gs.length + 1) (Cn.nums nl') := by
                        rw [hW9]
                        exact own_far (own_far hom _ (own_blk_ne hom hbx (by decide))) _ (own_blk_ne hom hbx (by decide))
                      have cs9 : CsAt W9 w.heap.size (.slice Av ((Cn.gatesC nl' 0 gs).length + (Cn.rootsC nl' rs).length) cv) (Cn.clausesC gs nl' rs) := by
                        rw [hW9]
                        exact (HCS.out.far hbx (by decide) (by decide) 0 _).far (hbx.set_ 0 _) (by decide) (by decide) 1 _
                      have cb0 := hbf.cell 0
                      have cb1 := hbf.cell 1
                      have cx0 := hbx.cell 0
                      have cx1 := hbx.cell 1
                      have fx0 := hbx.frozen 0
                      have fx1 := hbx.frozen 1
                      have HW9 := Lib.hid hW9
                      have x90 := x9.cell 0
                      have x91 := x9.cell 1
                      have HO9 := Lib.hid o9
                      have HC9 := Lib.hid cs9
                      have HB9 := Lib.hid hb9
                      clear hb hbx hbf hom hrow hcl hW9 x9 hb9 o9 cs9
                      go_wp2_with fail
                      rw [← HW9.out]
                      clear cb0 cb1 cx0 cx1 fx0 fx1
                      refine bodyPost_ret (v := .tuple #[.agg #[.int .i64 (Cn.cnt nl' (gs.length + 1) : Nat), .slice Av ((Cn.gatesC nl' 0 gs).length + (Cn.rootsC nl' rs).length) cv], .slice (some ⟨W5.heap.size, 0, none⟩) (gs.length + 1) (gs.length + 1)]) (by simp [results, Tryd.results27, go_sem, x90, x91]) rfl ?_
                      have hcl : (Cn.clausesC gs nl' rs).length = (Cn.gatesC nl' 0 gs).length + (Cn.rootsC nl' rs).length := by unfold Cn.clausesC; rw [List.length_append]
                      exact ⟨nl', Av, _, cv, _, HSP.out, HLEN.out, by rw [hcl], HB9.out, by rw [hcl]; exact HC9.out, HO9.out⟩
        · obtain ⟨i, rfl⟩ : ∃ i, n = i + 1 := ⟨n - 1, by omega⟩
          obtain ⟨⟨ga, gb, gi⟩, hgi⟩ : ∃ g, gs[i]? = some g := ⟨_, List.getElem?_eq_getElem (by omega)⟩
          obtain ⟨Am', cm', c0, _, hrow⟩ := (HM.out.new hb).row
          obtain ⟨blk, hA, hlt, d0, d1, d2⟩ := hrow i _ hgi
          subst hA
          obtain ⟨W5, hW5⟩ : ∃ W5, W5 = wr.alloc (.cells #[.int .i64 ga, .int .i64 gb, .bool gi] 126) := ⟨_, rfl⟩
          have hnew : Below wr.heap.size wr W5 := by rw [hW5]; exact (Below.refl _ _).alloc (Nat.le_refl _) _
          have x0 : W5.cell? ⟨wr.heap.size, 0, none⟩ = some (.int .i64 ga) := by rw [hW5, (Blk.new wr _ _).cell 0]; rfl
          have x1 : W5.cell? ⟨wr.heap.size, 1, none⟩ = some (.int .i64 gb) := by rw [hW5, (Blk.new wr _ _).cell 1]; rfl
          have x2 : W5.cell? ⟨wr.heap.size, 2, none⟩ = some (.bool gi) := by rw [hW5, (Blk.new wr _ _).cell 2]; rfl
          have hb5 : Below w.heap.size w W5 := hb.trans (hnew.mono hb.size)
          have hbx5 : Blk W5 w.heap.size 73 #[.int .i64 0, .slice none 0 0] := by rw [hW5]; exact hbx.alloc _
          have hon5 : W5.ownsRow w.heap.size 4 1 (.slice (some ⟨W1.heap.size, 0, none⟩) (gs.length + 1) (gs.length + 1)) (gs.length + 1) (boolVals nl) := by rw [hW5]; exact hon.alloc _
          obtain ⟨bb, hbb⟩ : ∃ bb, nl[i + 1]? = some bb := ⟨_, List.getElem?_eq_getElem (by have := hd.len; omega)⟩
          have cb := bool_cell hon5 hbb
          have hiI : (i : Int) < (gs.length : Int) := by omega
          have hn1 : IntKind.i64.wrap ((i : Int) + 1 - 1) = (i : Int) := by rw [IntKind.wrap_i64]; omega
          have HD := Lib.hid hd
          have HGI := Lib.hid hgi
          have HB5 := Lib.hid hb5
          have HBX5 := Lib.hid hbx5
          have HON5 := Lib.hid hon5
          have HW5 := Lib.hid hW5
          have HBB := Lib.hid hbb
          obtain ⟨u0, _, c00⟩ := own_cell (k := 0) hon (by omega)
          have h1lt : W1.heap.size < wr.heap.size := World.block_lt_of_cell? wr _ c00
          have HGB := Lib.hid (show Blk W5 wr.heap.size 126 #[.int .i64 ga, .int .i64 gb, .bool gi] by rw [hW5]; exact Blk.new wr _ _)
          clear hd hb hbx hon hgi hrow hnew hb5 hbx5 hon5 hW5 hbb c00
          go_upto_region 10 with fail
          rw [← HW5.out]
          cases bb with
          | false =>
            go_wp2_with fail
            go_roundw
            case rel => exact ⟨i, nl, by omega, by go_num, Cn.down_skip HD.out HGI.out (.inl HBB.out), HB5.out, HBX5.out, HON5.out⟩
            case measure => simp [intOf]
          | true =>
            cases gi with
            | true =>
              go_wp2_with fail
              go_roundw
              case rel => exact ⟨i, nl, by omega, by go_num, Cn.down_skip HD.out HGI.out (.inr rfl), HB5.out, HBX5.out, HON5.out⟩
              case measure => simp [intOf]
            | false =>
              obtain ⟨g1, g2, g3⟩ := HWF.out.ahead i _ HGI.out rfl
              simp only at g1 g2 g3
              obtain ⟨ya, hya⟩ : ∃ y : Nat, ga / 2 = y := ⟨_, rfl⟩
              obtain ⟨yb, hyb⟩ : ∃ y : Nat, gb / 2 = y := ⟨_, rfl⟩
              have ia : (ga : Int) / 2 = (ya : Int) := by omega
              have ib : (gb : Int) / 2 = (yb : Int) := by omega
              have a9 : ga ≤ 1000000 := by omega
              have b9 : gb ≤ 1000000 := by omega
              have laI : (ya : Int) < (gs.length : Int) + 1 := by omega
              have lbI : (yb : Int) < (gs.length : Int) + 1 := by omega
              obtain ⟨ua, _, ca⟩ := own_cell (k := ya) HON5.out (by omega)
              have fa := own_unfrozen (k := ya) HON5.out
              have hon6 : (W5.setCell ⟨W1.heap.size, ya, none⟩ (.bool true)).ownsRow w.heap.size 4 1 (.slice (some ⟨W1.heap.size, 0, none⟩) (gs.length + 1) (gs.length + 1)) (gs.length + 1) (boolVals (nl.set ya true)) := by rw [boolVals_set]; exact own_set HON5.out _
              obtain ⟨ub, _, cb6⟩ := own_cell (k := yb) hon6 (by omega)
              have fb6 := own_unfrozen (k := yb) hon6
              have x16 := (HGB.out.far (p := ⟨W1.heap.size, ya, none⟩) (by show wr.heap.size ≠ W1.heap.size; omega) (.bool true)).cell 1
              have HD6 := Lib.hid (Cn.down_mark HD.out HBB.out HGI.out rfl HWF.out)
              have HON6 := Lib.hid hon6
              have HY := Lib.hid (And.intro hya hyb)
              clear g1 g2 g3 hya hyb hon6
              go_wp2_with fail
              go_roundw
              case rel =>
                refine ⟨i, _, by omega, by go_num, HD6.out, (HB5.out.setCell HBW1.out.size _).setCell HBW1.out.size _, (HBX5.out.far (p := ⟨W1.heap.size, ya, none⟩) (fun e => own_blk_ne HON5.out HBX5.out (by decide) (by rw [e]; rfl)) _).far (p := ⟨W1.heap.size, yb, none⟩) (fun e => own_blk_ne HON5.out HBX5.out (by decide) (by rw [e]; rfl)) _, ?_⟩
                simp only
                rw [HY.out.1, HY.out.2, boolVals_set]
                exact own_set HON6.out _
              case measure => simp [intOf]
end Go.Proofs.YtmbjhpgemphmmaaDoor
