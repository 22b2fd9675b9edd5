/-
  THE WALK of the law WordShapes.
  THE WALK of the law WordShapes.
-/
import Derived.Test.YtmbjhpgemphmmaaDoorSe
import Derived.Test.YtmbjhpgemphmmaaDoorSg
import Derived.Test.YtmbjhpgemphmmaaDoorGx
import Derived.Test.YtmbjhpgemphmmaaDoorLp
namespace Go.Proofs.YtmbjhpgemphmmaaDoor
open Go.RowKit
section
variable {w w1 : World} {base e size n : Nat} {v : Value} {xs : List Value} {o : Obj}
/-- an append onto a row of the call's own changes objects of its type alone -/
theorem grown_chg (ho : w.ownsRow base e size v n xs) (hg : (w.alloc o).grownBy w1 v.ownBlock) : Chg (fun k o => base ≤ k ∧ elemOf o = some e) w w1 := by
  refine ((Chg.refl _ w).alloc o).grown hg fun k o' hk ho' => ?_
  have hge := (ho.lt k hk).1
  rcases ho.2 with ⟨rfl, _⟩ | ⟨g', cap, cur, rfl, _, hh, _⟩
  · simp [Value.ownBlock] at hk
  · simp only [Value.ownBlock, Option.some.injEq] at hk
    subst hk
    rw [hh] at ho'
    injection ho' with ho'
    subst ho'
    exact ⟨hge, rfl⟩
theorem grown_below {W : World} (hb : Below W.heap.size W w) (ho : w.ownsRow base e size v n xs) (hbs : W.heap.size ≤ base) (hg : (w.alloc o).grownBy w1 v.ownBlock) : Below W.heap.size W w1 := by
  refine (hb.alloc hb.size o).trans ⟨hg.os, hg.tape, hg.output, hg.size, fun k hk => hg.block k (by have := hb.size; simp; omega) fun h => ?_⟩
  have := (ho.lt k h.symm).1
  omega
end
/-- rows that hold words -/
def RowsG (w : World) (B : Nat) (ps : List (List Nat)) (rows : List Value) : Prop :=
  rows.length = ps.length ∧ ∀ (i : Nat) (v : Value), rows[i]? = some v → ∃ Ai ci xs, ps[i]? = some xs ∧ v = .slice Ai xs.length ci ∧ Held w B Ai xs.length xs
theorem RowsG.chg {w w' : World} {B : Nat} {ps : List (List Nat)} {rows : List Value} {S : Nat → Obj → Prop} (h : RowsG w B ps rows) (hc : Chg S w w') (hS : ∀ k o, S k o → B ≤ k ∧ elemOf o ≠ some 29) : RowsG w' B ps rows :=
  ⟨h.1, fun i v hv => by obtain ⟨Ai, ci, xs, h1, h2, h3⟩ := h.2 i v hv; exact ⟨Ai, ci, xs, h1, h2, h3.chg hc hS⟩⟩
theorem RowsG.snoc {w : World} {B c : Nat} {A : Option Addr} {ps : List (List Nat)} {xs : List Nat} {rows : List Value} (h : RowsG w B ps rows) (hx : Held w B A xs.length xs) : RowsG w B (ps ++ [xs]) (rows ++ [.slice A xs.length c]) := by
  refine ⟨by rw [List.length_append, List.length_append, h.1]; rfl, fun i v hv => ?_⟩
  rcases Gm.getElem?_snoc hv with hv | ⟨rfl, rfl⟩
  · obtain ⟨Ai, ci, ys, h1, h2, h3⟩ := h.2 i v hv
    exact ⟨Ai, ci, ys, by rw [List.getElem?_append_left (List.getElem?_eq_some_iff.1 h1).1]; exact h1, h2, h3⟩
  · exact ⟨A, c, xs, by rw [h.1, List.getElem?_append_right (Nat.le_refl _)]; simp, rfl, hx⟩
theorem parts_of_ownG {w : World} {base B m c : Nat} {A : Option Addr} {ps : List (List Nat)} {rows : List Value} (h : w.ownsRow base 28 1 (.slice A m c) m rows) (hr : RowsG w B ps rows) (hm : 0 < m) : PartsAt w B A ps := by
  obtain ⟨g, cap, hv, _, hlt⟩ := h.form hm
  have hA : A = some ⟨g, 0, none⟩ := by injection hv
  subst hA
  have hc := h.cells (g := g) rfl
  rcases h.2 with ⟨h0, _⟩ | ⟨g', cap', cur, hv', _, hh, _⟩
  · cases h0
  · have hg : g = g' := by simp only [Value.slice.injEq, Option.some.injEq, Addr.mk.injEq, and_true] at hv'; exact hv'.1
    subst hg
    refine ⟨_, _, rfl, hh, .inr rfl, fun i xs hx => ?_⟩
    obtain ⟨v, hv⟩ : ∃ v, rows[i]? = some v := ⟨_, List.getElem?_eq_getElem (by rw [hr.1]; exact (List.getElem?_eq_some_iff.1 hx).1)⟩
    obtain ⟨Ai, ci, ys, h1, rfl, h3⟩ := hr.2 i v hv
    obtain rfl : ys = xs := by rw [hx] at h1; injection h1 with h1; exact h1.symm
    exact ⟨Ai, ci, hc i _ hv, h3⟩
theorem infoValue_ : (Tryd.prog.info? 45).map (fun i => (i.zero, i.size, i.bytes)) = some (some (.agg #[.int .i64 0, .int .i64 0]), 2, 16) := by kernel_rfl
theorem infoRowS_ : (Tryd.prog.info? 28).map (fun i => (i.zero, i.size, i.bytes)) = some (some (.slice none 0 0), 1, 24) := by kernel_rfl
/-- lengths of words that a value has -/
def fits8 (ns : List Nat) : Bool := ns.all fun n => n == 1 || n == 8
def kindOf (n : Nat) : List (Int × Int) := if n == 1 then [(1, 0)] else if n == 8 then [(2, 1)] else []
def kindsOf (ns : List Nat) : List (Int × Int) := ns.flatMap kindOf
theorem kindsOf_snoc (ns : List Nat) (n : Nat) : kindsOf (ns ++ [n]) = kindsOf ns ++ kindOf n := by unfold kindsOf; rw [List.flatMap_append]; simp
theorem fits8_snoc (ns : List Nat) (n : Nat) : fits8 (ns ++ [n]) = (fits8 ns && (n == 1 || n == 8)) := by unfold fits8; rw [List.all_append]; simp
theorem kindsOf_right (ns : List Nat) : ∀ p ∈ kindsOf ns, right p.1 p.2 = true := fun p hp => by
  unfold kindsOf at hp
  obtain ⟨n, _, hp⟩ := List.mem_flatMap.1 hp
  unfold kindOf at hp
  split at hp
  · obtain rfl := List.mem_singleton.1 hp; rfl
  · split at hp
    · obtain rfl := List.mem_singleton.1 hp; rfl
    · cases hp
theorem kindsOf_len {ns : List Nat} (h : fits8 ns = true) : (kindsOf ns).length = ns.length ∧ (kindsOf ns).map (fun p => lenK p.1) = ns := by
  induction ns with
  | nil => exact ⟨rfl, rfl⟩
  | cons n r ih =>
    unfold fits8 at h ih
    simp only [List.all_cons, Bool.and_eq_true, Bool.or_eq_true, beq_iff_eq] at h ih
    obtain ⟨h1, h2⟩ := ih h.2
    have e : kindsOf (n :: r) = kindOf n ++ kindsOf r := by unfold kindsOf; rw [List.flatMap_cons]
    rw [e]
    rcases h.1 with rfl | rfl
    · exact ⟨by show ([((1 : Int), (0 : Int))] ++ kindsOf r).length = _; rw [List.length_append, h1]; simp; omega, by show (List.map _ ([((1 : Int), (0 : Int))] ++ kindsOf r)) = _; rw [List.map_append, h2]; rfl⟩
    · exact ⟨by show ([((2 : Int), (1 : Int))] ++ kindsOf r).length = _; rw [List.length_append, h1]; simp; omega, by show (List.map _ ([((2 : Int), (1 : Int))] ++ kindsOf r)) = _; rw [List.map_append, h2]; rfl⟩
theorem fitB_fits {i : Nat} {ns : List Nat} (h : fitB i ns = true) : fits8 ns = true := by
  unfold fitB at h
  unfold fits8
  split at h
  · simp only [beq_iff_eq] at h; subst h; rfl
  · simp only [beq_iff_eq] at h; subst h; rfl
  · simp only [Bool.and_eq_true, Bool.or_eq_true, beq_iff_eq] at h
    obtain ⟨⟨rfl, h2⟩, rfl⟩ := h
    rcases h2 with rfl | rfl <;> rfl
  · split at h
    · simp only [Bool.and_eq_true, beq_iff_eq] at h; obtain ⟨rfl, rfl⟩ := h; rfl
    · split at h
      · simp only [Bool.and_eq_true, Bool.or_eq_true, beq_iff_eq] at h
        obtain ⟨h1, rfl⟩ := h
        rcases h1 with rfl | rfl <;> rfl
      · split at h
        · simp only [Bool.and_eq_true, beq_iff_eq] at h; obtain ⟨rfl, rfl⟩ := h; rfl
        · cases h
  · cases h
/-- zeros -/
def zerosOf (ns : List Nat) : List (List Nat) := ns.map fun n => List.replicate n 0
theorem zerosOf_snoc (ns : List Nat) (n : Nat) : zerosOf (ns ++ [n]) = zerosOf ns ++ [List.replicate n 0] := by unfold zerosOf; simp
theorem zerosOf_lens (ns : List Nat) : (zerosOf ns).map List.length = ns := by
  unfold zerosOf
  rw [List.map_map]
  induction ns with
  | nil => rfl
  | cons n r ih => rw [List.map_cons, ih]; simp
def ShR (W : World) (B : Nat) (lens : List Int) (ov bv kv iv : Value) (wr : World) : Prop :=
  ∃ (ns : List Nat) (rows : List Value), ns.length ≤ lens.length ∧ iv = .int .i64 (ns.length : Nat) ∧ lens.take ns.length = ns.map (fun n : Nat => (n : Int)) ∧ (∀ n ∈ ns, n ≤ 20) ∧ (∃ A c, ov = .slice A ns.length c) ∧ bv = .bool (fits8 ns) ∧
    (∃ A c, kv = .slice A (kindsOf ns).length c) ∧ Below W.heap.size W wr ∧ wr.ownsRow W.heap.size 28 1 ov ns.length rows ∧ wr.ownsRow W.heap.size 45 2 kv (kindsOf ns).length (pvVals (kindsOf ns)) ∧ RowsG wr B (zerosOf ns) rows
theorem pvVals_append (a b : List (Int × Int)) : pvVals (a ++ b) = pvVals a ++ pvVals b := by
  induction a with
  | nil => rfl
  | cons x r ih => simp only [List.cons_append, pvVals, ih]
/-- what Of and IsApply tell of the words' lengths -/
theorem shapes_case {wr : World} {B b LB : Nat} (hg : GA wr B b []) (hL : Lvls wr LB) (hLB : LB ≤ wr.heap.size) {p : Addr} (he : wr.cell? ⟨0, 0, none⟩ = some (.iface 220 (.pointer (some p))))
    {s : ByteArray} {ns : List Nat} {A A2 : Option Addr} {c c2 : Nat} (hp : 0 < ns.length → PartsAt wr B A (zerosOf ns)) :
    (Calls Tryd.prog 17 #[.pointer (some ⟨b, 0, none⟩), .string s, .slice A ns.length c] wr (OfE wr p) ∧
      (fits8 ns = true → ∀ W, Reads W W.heap.size 2 A2 (kindsOf ns).length (pvVals (kindsOf ns)) → Calls Tryd.prog 20 #[.string s, .slice A2 (kindsOf ns).length c2] W (IaP W true))) ∨
    ((∃ i ps, Calls Tryd.prog 17 #[.pointer (some ⟨b, 0, none⟩), .string s, .slice A ns.length c] wr (OfQ wr B b [] i ps)) ∧ fits8 ns = true ∧
      ∀ W, Reads W W.heap.size 2 A2 (kindsOf ns).length (pvVals (kindsOf ns)) → Calls Tryd.prog 20 #[.string s, .slice A2 (kindsOf ns).length c2] W (IaP W false)) := by
  by_cases hbad : badOp s ns.length = true
  · refine .inl ⟨of_bad he fun W hb => shape_bad (hL.below hb hLB) (Nat.le_trans hLB hb.size) hbad, fun hf W _ => isa_bad ?_⟩
    rw [(kindsOf_len hf).1]; exact hbad
  · obtain ⟨i, hi, rfl, hm⟩ := known_op (known (by simpa using hbad))
    have hpos : 0 < ns.length := by have := (arOf_range i).1; omega
    have hpp := hp hpos
    cases hfit : fitB i ns with
    | false =>
      refine .inl ⟨of_bad he fun W hb => ?_, fun hf W hr => ?_⟩
      · have h := shape_op (c := c) (hL.below hb hLB) (Nat.le_trans hLB hb.size) hi hm (show Lens W A ns by have := (hpp.new hb).lens; rwa [zerosOf_lens] at this)
        rw [hfit] at h
        rw [hm]; exact h
      · obtain ⟨h1, h2⟩ := kindsOf_len hf
        have h := isa_op (c := c2) hi (show (kindsOf ns).length = arOf i by rw [h1, hm]) rfl (kindsOf_right ns) hr (Nat.le_refl _)
        rw [h2, hfit] at h
        exact h
    | true =>
      have hf := fitB_fits hfit
      refine .inr ⟨⟨i, zerosOf ns, ?_⟩, hf, fun W hr => ?_⟩
      · have h := of_op (c := c) hg hL hLB hpp hi (show (zerosOf ns).length = arOf i by unfold zerosOf; rw [List.length_map, hm]) (by rw [zerosOf_lens]; exact hfit) (fun zs hz x hx => by
          unfold zerosOf at hz
          obtain ⟨n, _, rfl⟩ := List.mem_map.1 hz
          rw [(List.mem_replicate.1 hx).2]; exact has_zero []) (by simp)
        rw [hm]; exact h
      · obtain ⟨h1, h2⟩ := kindsOf_len hf
        have h := isa_op (c := c2) hi (show (kindsOf ns).length = arOf i by rw [h1, hm]) rfl (kindsOf_right ns) hr (Nat.le_refl _)
        rw [h2, hfit] at h
        exact h
end Go.Proofs.YtmbjhpgemphmmaaDoor
namespace Go.Proofs.YtmbjhpgemphmmaaDoor
open Go.RowKit
theorem kindsOf_le (ns : List Nat) : (kindsOf ns).length ≤ ns.length := by
  induction ns with
  | nil => simp [kindsOf]
  | cons x r ih =>
    have e : kindsOf (x :: r) = kindOf x ++ kindsOf r := by unfold kindsOf; rw [List.flatMap_cons]
    rw [e, List.length_append]
    have h1 : (kindOf x).length ≤ 1 := by
      unfold kindOf
      split
      · simp
      · split <;> simp
    rw [List.length_cons]; omega
theorem shapes_long {w : World} {A : Option Addr} {n c : Nat} {s : ByteArray} (hn : 5 < n) :
    Calls Tryd.prog 5 #[.string s, .slice A n c] w (LPost w) := by
  have h5 : (5 : Int) < (n : Int) := by omega
  go_enter Tryd.func5, Tryd.ntmps5
  go_wp2_with fail
  refine (five_any _).mono ?_
  rintro e w1 ⟨rfl, hb1⟩
  have HB1 := Lib.hid hb1
  clear hb1
  go_wp2
  go_ret
  exact ⟨rfl, HB1.out⟩
set_option maxRecDepth 100000 in
set_option maxHeartbeats 8000000 in
theorem shapes_short {w : World} {LB E : Nat} {ea : Nat → Addr} (he : Errs w ea E) (hE : E ≤ w.heap.size) (hL : Lvls w LB) (hLB : LB ≤ w.heap.size) {s : ByteArray} {A : Option Addr} {c n : Nat} {lens : List Int} (hn : lens.length = n) (hn5 : n ≤ 5)
    (hr : Reads w w.heap.size 1 A n (litVals lens)) :
    Calls Tryd.prog 5 #[.string s, .slice A n c] w (LPost w) := by
  obtain ⟨ir, hr0, hy0, hy1, hy2⟩ := info_parts infoRowS_
  have HIR := Lib.hid (show _ ∧ _ ∧ _ ∧ _ from ⟨hr0, hy0, hy1, hy2⟩)
  obtain ⟨iv, hv0, hx0, hx1, hx2⟩ := info_parts infoValue_
  have HIV := Lib.hid (show _ ∧ _ ∧ _ ∧ _ from ⟨hv0, hx0, hx1, hx2⟩)
  have HE := Lib.hid he
  have HEE := Lib.hid hE
  have HL := Lib.hid hL
  have HLB := Lib.hid hLB
  have HR := Lib.hid hr
  clear he hE hL hLB hr hr0 hy0 hy1 hy2 hv0 hx0 hx1 hx2
  go_enter Tryd.func5, Tryd.ntmps5
  go_wp2_with fail
  refine (five_any _).mono ?_
  rintro e w1 ⟨rfl, hb1⟩
  have HB1 := Lib.hid hb1
  have hga := ga_new w1 (B := w1.heap.size) (Nat.le_refl _)
  obtain ⟨W2, hW2⟩ : ∃ W2, W2 = w1.alloc (.cells #[.slice none 0 0, .int .i64 0, .map none] 27) := ⟨_, rfl⟩
  rw [← hW2] at hga
  have hb12 : Below w1.heap.size w1 W2 := by rw [hW2]; exact (Below.refl _ _).alloc (Nat.le_refl _) _
  have hbw2 : Below w.heap.size w W2 := hb1.trans (hb12.mono hb1.size)
  have HGA := Lib.hid hga
  have HB2 := Lib.hid hbw2
  have HW12 := Lib.hid (And.intro hb1.size hb12.size)
  have HW2 := Lib.hid hW2
  clear hb1 hga hW2 hb12 hbw2
  go_wp2_with fail
  rw [← HW2.out]
  go_loopw [7, 8, 9, 10] (fun ov bv kv jv wr => ShR W2 w1.heap.size lens ov bv kv jv wr) (fun _ _ _ jv _ => lens.length - (intOf jv).toNat)
  case atStart => exact ⟨[], [], Nat.zero_le _, rfl, rfl, by simp, ⟨none, 0, rfl⟩, rfl, ⟨none, 0, rfl⟩, Below.refl _ _, World.ownsRow_nil _ _ _ _, World.ownsRow_nil _ _ _ _, rfl, fun i v hv => by simp at hv⟩
  case round =>
    obtain ⟨ns, rows, hnl, rfl, htk, hns, ⟨Ao, co, rfl⟩, rfl, ⟨Ak, ck, rfl⟩, hb, hown, hkin, hrows⟩ := hrel
    obtain ⟨k, hkn⟩ : ∃ k, ns.length = k := ⟨_, rfl⟩
    obtain ⟨q, hq⟩ : ∃ q, (kindsOf ns).length = q := ⟨_, rfl⟩
    obtain ⟨fb, hfb⟩ : ∃ fb, fits8 ns = fb := ⟨_, rfl⟩
    have hqk : q ≤ k := by rw [← hq, ← hkn]; exact kindsOf_le ns
    rw [hkn] at hnl htk hown ⊢
    rw [hq] at hkin ⊢
    rw [hfb]
    rw [hn] at hnl
    have HB := Lib.hid (HB2.out.trans (hb.mono HB2.out.size))
    have HBW := Lib.hid hb
    have HO := Lib.hid hown
    have HK := Lib.hid hkin
    have HRW := Lib.hid hrows
    have HTK := Lib.hid htk
    have HNS := Lib.hid hns
    have HKN := Lib.hid hkn
    have HQ := Lib.hid hq
    have HFB := Lib.hid hfb
    clear hb hown hkin hrows htk hns hkn hq hfb
    by_cases hk2 : k < n
    · obtain ⟨x, hx⟩ : ∃ x, lens[k]? = some x := ⟨_, List.getElem?_eq_getElem (by omega)⟩
      obtain ⟨ad, hA, hadb, hc⟩ := HR.out.2 (by omega)
      subst hA
      have hcw := hc k (.int .i64 x) (by unfold litVals; simp [hx])
      have cx := (HB.out.cell (p := ad.add k) (by rw [block_of_add]; exact hadb)).trans hcw
      have HCW := Lib.hid hcw
      have HAD := Lib.hid hadb
      clear hcw
      have HX := Lib.hid hx
      clear hx hc hadb
      by_cases hx0 : x < 0
      · go_wp2_with fail
        go_ret
        exact ⟨rfl, HB.out⟩
      · by_cases hx20 : 20 < x
        · go_wp2_with fail
          go_ret
          exact ⟨rfl, HB.out⟩
        · obtain ⟨m, rfl⟩ : ∃ m : Nat, x = (m : Int) := ⟨x.toNat, by omega⟩
          have hm20 : m ≤ 20 := by omega
          clear hx0 hx20
          have hm0 : decide ((m : Int) < 0) = false := decide_eq_false (by omega)
          have hm1 : decide ((20 : Int) < (m : Int)) = false := decide_eq_false (by omega)
          have hmk := run_make_lits m (by omega) wr
          obtain ⟨wz, hwz⟩ : ∃ wz, wz = wr.alloc (.cells (natVals (List.replicate m 0)).toArray 29) := ⟨_, rfl⟩
          have hz : wz.ownsRow wr.heap.size 29 1 (.slice (some ⟨wr.heap.size, 0, none⟩) m m) m (natVals (List.replicate m 0)) := by
            rw [hwz]; exact own_full (Nat.le_refl _) (by rw [natVals_length, List.length_replicate]) (by omega)
          rw [← hwz] at hmk
          have HZ := Lib.hid hz
          have hbz : Below w.heap.size w wz := by rw [hwz]; exact HB.out.alloc HB.out.size _
          have hbz2 : Below W2.heap.size W2 wz := by rw [hwz]; exact HBW.out.alloc HBW.out.size _
          have hcz : Chg (fun _ _ => False) wr wz := by rw [hwz]; exact (Chg.refl _ _).alloc _
          have HBZ := Lib.hid hbz2
          have HOZ := Lib.hid (own_chg HO.out hcz (by simp))
          have HKZ := Lib.hid (own_chg HK.out hcz (by simp))
          have HRZ := Lib.hid (HRW.out.chg hcz (by simp))
          have hcx : wz.cell? (ad.add k) = some (.int .i64 (m : Int)) := by rw [← cx]; exact (show Below wr.heap.size wr wz by rw [hwz]; exact (Below.refl _ _).alloc (Nat.le_refl _) _).cell (World.block_lt_of_cell? _ _ cx)
          have hsz : W2.heap.size ≤ wz.heap.size := hbz2.size
          have HBZW := Lib.hid hbz
          have HBWR := Lib.hid (HBW.out.size)
          clear hz hbz hbz2 hcz hwz
          go_upto_region 14 with (at_builtin; refine wpList_append_sl _ rfl (.tmp 43) (.tmp 49) _ rfl W2.heap.size 28 ir _ 1 24 Tryd.underlying53 HIR.out.1 HIR.out.2.1 HIR.out.2.2.1 HIR.out.2.2.2 rfl (by omega) _ k _ rfl (HOZ.out.alloc _) (wz.heap.size + 1) (some ⟨wz.heap.size, 0, none⟩) 1 1 [.slice (some ⟨wr.heap.size, 0, none⟩) m m] rfl (reads_new rfl (by omega) rfl) (fun u hu => by rw [List.mem_singleton.1 hu]; rfl) (le_maxLen (by omega)) (le_bytes (by omega) (by omega)) (by simp; omega) ?_; intro A5 c5 w5 hown5 hg5)
          have hg5' : (wz.alloc (.cells #[.slice (some ⟨wr.heap.size, 0, none⟩) m m] 28)).grownBy w5 (Value.slice Ao k co).ownBlock := hg5
          have hch := grown_chg HOZ.out hg5'
          have hb5 := grown_below HBZ.out HOZ.out (Nat.le_refl _) hg5'
          have HB5 := Lib.hid hb5
          have hrl : (List.replicate m 0).length = m := List.length_replicate
          have hS : ∀ (j : Nat) (o : Obj), (W2.heap.size ≤ j ∧ elemOf o = some 28) → w1.heap.size ≤ j ∧ elemOf o ≠ some 29 := fun j o hs => ⟨by have := hs.1; have := HW12.out.2; omega, by rw [hs.2]; simp⟩
          have HK5 := Lib.hid (own_chg HKZ.out hch (by simp [elemOf]))
          have HO5 := Lib.hid (show w5.ownsRow W2.heap.size 28 1 (.slice A5 (k + 1) c5) (k + 1) (rows ++ [.slice (some ⟨wr.heap.size, 0, none⟩) m m]) from hown5)
          have HR5 := Lib.hid (show RowsG w5 w1.heap.size (zerosOf (ns ++ [m])) (rows ++ [.slice (some ⟨wr.heap.size, 0, none⟩) m m]) by
            rw [zerosOf_snoc]
            have h := (HRZ.out.chg hch hS).snoc (c := m) (A := some ⟨wr.heap.size, 0, none⟩) (xs := List.replicate m 0) (by rw [hrl]; exact (Held.of_own HZ.out).chg hch hS)
            rwa [hrl] at h)
          have hcx5 : w5.cell? (ad.add k) = some (.int .i64 (m : Int)) := ((HB2.out.trans (hb5.mono HB2.out.size)).cell (by rw [block_of_add]; exact HAD.out)).trans HCW.out
          have hs5 : W2.heap.size ≤ w5.heap.size := hb5.size
          clear hown5 hg5 hg5' hch hb5 hS hrl hmk hcx cx
          by_cases hm1' : m = 1
          · subst hm1'
            go_wp2_with (at_builtin; refine wpList_append_sl _ rfl (.tmp 57) (.tmp 59) _ rfl W2.heap.size 45 iv _ 2 16 Tryd.underlying48 HIV.out.1 HIV.out.2.1 HIV.out.2.2.1 HIV.out.2.2.2 rfl (by omega) _ q _ rfl (HK5.out.alloc _) (w5.heap.size + 1) (some ⟨w5.heap.size, 0, none⟩) 1 1 [.int .i64 1, .int .i64 0] rfl (reads_new rfl (by omega) rfl) (ints_one (by simp)) (le_maxLen (by omega)) (le_bytes (by omega) (by omega)) (by simp; omega) ?_; intro A6 c6 w6 hown6 hg6)
            have hg6' : (w5.alloc (.cells #[.int .i64 1, .int .i64 0] 45)).grownBy w6 (Value.slice Ak q ck).ownBlock := hg6
            have hch6 := grown_chg HK5.out hg6'
            have HB6 := Lib.hid (grown_below HB5.out HK5.out (Nat.le_refl _) hg6')
            have HO6 := Lib.hid (own_chg HO5.out hch6 (by simp [elemOf]))
            have HK6 := Lib.hid (show w6.ownsRow W2.heap.size 45 2 (.slice A6 (q + 1) c6) (q + 1) (pvVals (kindsOf ns ++ [(1, 0)])) by rw [pvVals_append]; exact hown6)
            have HR6 := Lib.hid (HR5.out.chg hch6 fun j o hs => ⟨by have := hs.1; have := HW12.out.2; omega, by rw [hs.2]; simp⟩)
            clear hown6 hg6 hg6' hch6
            go_wp2_with fail
            go_roundw
            case rel =>
              refine ⟨ns ++ [1], _, ?_, ?_, ?_, ?_, ?_, ?_, ?_, HB6.out, ?_, ?_, HR6.out⟩
              · rw [List.length_append, HKN.out]; simp; omega
              · rw [List.length_append, HKN.out]; go_num
              · rw [List.length_append, HKN.out, List.map_append, ← HTK.out]; exact Gm.take_one HX.out
              · intro y hy
                rcases List.mem_append.1 hy with hy | hy
                · exact HNS.out y hy
                · rw [List.mem_singleton.1 hy]; exact hm20
              · rw [List.length_append, HKN.out]; exact ⟨_, _, rfl⟩
              · rw [fits8_snoc, HFB.out]; simp
              · rw [kindsOf_snoc]; rw [show kindOf 1 = [(1, 0)] from rfl, List.length_append, HQ.out]; exact ⟨_, _, rfl⟩
              · rw [List.length_append, HKN.out]; exact HO6.out
              · rw [kindsOf_snoc]; rw [show kindOf 1 = [(1, 0)] from rfl, List.length_append, HQ.out]; exact HK6.out
            case measure => simp [intOf]; omega
          · by_cases hm8 : m = 8
            · subst hm8
              go_wp2_with (at_builtin; refine wpList_append_sl _ rfl (.tmp 63) (.tmp 65) _ rfl W2.heap.size 45 iv _ 2 16 Tryd.underlying48 HIV.out.1 HIV.out.2.1 HIV.out.2.2.1 HIV.out.2.2.2 rfl (by omega) _ q _ rfl (HK5.out.alloc _) (w5.heap.size + 1) (some ⟨w5.heap.size, 0, none⟩) 1 1 [.int .i64 2, .int .i64 1] rfl (reads_new rfl (by omega) rfl) (ints_one (by simp)) (le_maxLen (by omega)) (le_bytes (by omega) (by omega)) (by simp; omega) ?_; intro A6 c6 w6 hown6 hg6)
              have hg6' : (w5.alloc (.cells #[.int .i64 2, .int .i64 1] 45)).grownBy w6 (Value.slice Ak q ck).ownBlock := hg6
              have hch6 := grown_chg HK5.out hg6'
              have HB6 := Lib.hid (grown_below HB5.out HK5.out (Nat.le_refl _) hg6')
              have HO6 := Lib.hid (own_chg HO5.out hch6 (by simp [elemOf]))
              have HK6 := Lib.hid (show w6.ownsRow W2.heap.size 45 2 (.slice A6 (q + 1) c6) (q + 1) (pvVals (kindsOf ns ++ [(2, 1)])) by rw [pvVals_append]; exact hown6)
              have HR6 := Lib.hid (HR5.out.chg hch6 fun j o hs => ⟨by have := hs.1; have := HW12.out.2; omega, by rw [hs.2]; simp⟩)
              clear hown6 hg6 hg6' hch6
              go_wp2_with fail
              go_roundw
              case rel =>
                refine ⟨ns ++ [8], _, ?_, ?_, ?_, ?_, ?_, ?_, ?_, HB6.out, ?_, ?_, HR6.out⟩
                · rw [List.length_append, HKN.out]; simp; omega
                · rw [List.length_append, HKN.out]; go_num
                · rw [List.length_append, HKN.out, List.map_append, ← HTK.out]; exact Gm.take_one HX.out
                · intro y hy
                  rcases List.mem_append.1 hy with hy | hy
                  · exact HNS.out y hy
                  · rw [List.mem_singleton.1 hy]; exact hm20
                · rw [List.length_append, HKN.out]; exact ⟨_, _, rfl⟩
                · rw [fits8_snoc, HFB.out]; simp
                · rw [kindsOf_snoc]; rw [show kindOf 8 = [(2, 1)] from rfl, List.length_append, HQ.out]; exact ⟨_, _, rfl⟩
                · rw [List.length_append, HKN.out]; exact HO6.out
                · rw [kindsOf_snoc]; rw [show kindOf 8 = [(2, 1)] from rfl, List.length_append, HQ.out]; exact HK6.out
              case measure => simp [intOf]; omega
            · have e1 : ((m : Int) == 1) = false := by simp; omega
              have e8 : ((m : Int) == 8) = false := by simp; omega
              go_wp2_with fail
              go_roundw
              case rel =>
                refine ⟨ns ++ [m], _, ?_, ?_, ?_, ?_, ?_, ?_, ?_, HB5.out, ?_, ?_, HR5.out⟩
                · rw [List.length_append, HKN.out]; simp; omega
                · rw [List.length_append, HKN.out]; go_num
                · rw [List.length_append, HKN.out, List.map_append, ← HTK.out]; exact Gm.take_one HX.out
                · intro y hy
                  rcases List.mem_append.1 hy with hy | hy
                  · exact HNS.out y hy
                  · rw [List.mem_singleton.1 hy]; exact hm20
                · rw [List.length_append, HKN.out]; exact ⟨_, _, rfl⟩
                · rw [fits8_snoc, HFB.out]; simp [hm1', hm8]
                · rw [kindsOf_snoc]; rw [show kindOf m = [] by unfold kindOf; simp [hm1', hm8], List.append_nil, HQ.out]; exact ⟨_, _, rfl⟩
                · rw [List.length_append, HKN.out]; exact HO5.out
                · rw [kindsOf_snoc]; rw [show kindOf m = [] by unfold kindOf; simp [hm1', hm8], List.append_nil, HQ.out]; exact HK5.out
              case measure => simp [intOf]; omega
    · obtain rfl : k = n := by omega
      obtain ⟨hb12, hb2s⟩ := HW12.out
      have hlw : Lvls wr LB := HL.out.below HB.out HLB.out
      have hlb : LB ≤ wr.heap.size := Nat.le_trans HLB.out HB.out.size
      have her := HE.out.below (HB.out.mono HEE.out)
      have hca := shapes_case (s := s) (c := co) (c2 := ck) (A2 := Ak) (ns := ns) (HGA.out.new HBW.out) hlw hlb (her.var 3 (by omega) (by omega)) (fun hp => parts_of_ownG (by rw [← HKN.out] at HO; exact HO.out) HRW.out hp)
      rw [HQ.out, HKN.out, HFB.out] at hca
      have HER := Lib.hid her
      have HEE2 := Lib.hid (Nat.le_trans HEE.out HB.out.size)
      rcases hca with ⟨co1, co2⟩ | ⟨⟨i, ps, co1⟩, co2, co3⟩
      · have CO := Lib.hid co1
        have CI := Lib.hid co2
        clear hlw hlb her hb12 hb2s co1 co2
        go_wp2_with fail
        refine CO.out.mono ?_
        rintro e w2 ⟨rfl, hb2⟩
        have HBE := Lib.hid hb2
        have HCC := Lib.hid (show ∀ W', Below wr.heap.size wr W' → Calls Tryd.prog 21 #[.iface 220 (.pointer (some (ea 3))), .int .i64 3] W' (fun e w' => e = .returned (.bool true) ∧ Below W'.heap.size W' w') from fun W' hb =>
          coded_sent (HER.out.below (hb.mono HEE2.out)) (Nat.le_trans HEE2.out hb.size) (k := 3) (by omega) (by omega))
        have HK2 := Lib.hid (own_chg HK.out (S := fun _ _ => False) (.of_new hb2) (by simp))
        clear hb2
        cases fb with
        | false =>
          go_wp2_with fail
          refine (HCC.out w2 HBE.out).mono ?_
          rintro e w3 ⟨rfl, hb3⟩
          have HEND := Lib.hid (HB.out.trans ((HBE.out.trans (hb3.mono HBE.out.size)).mono HB.out.size))
          clear hb3
          go_wp2
          go_ret
          exact ⟨rfl, HEND.out⟩
        | true =>
          go_wp2_with fail
          refine (CI.out trivial w2 (Reads.of_own HK2.out)).mono ?_
          rintro e w3 ⟨r, rfl, hr, hb3⟩
          have HB3 := Lib.hid (HBE.out.trans (hb3.mono HBE.out.size))
          clear hb3
          go_wp2_with fail
          refine (HCC.out w3 HB3.out).mono ?_
          rintro e w4 ⟨rfl, hb4⟩
          have HEND := Lib.hid (HB.out.trans ((HB3.out.trans (hb4.mono HB3.out.size)).mono HB.out.size))
          clear hb4
          go_wp2
          go_ret
          exact ⟨rfl, HEND.out⟩
      · subst co2
        have CO := Lib.hid co1
        have CI := Lib.hid co3
        clear hlw hlb her hb12 hb2s co1 co3
        go_wp2_with fail
        refine CO.out.mono ?_
        rintro e w2 ⟨nr, Ar, cr, gs', outs, last, rfl, h1, h2, h3, h4, h5, h6⟩
        have HK2 := Lib.hid (own_chg HK.out h2 fun g cur _ _ hs => by rcases hs.2 with e | e | e <;> simp [elemOf] at e)
        have HB3 := Lib.hid (show Below w.heap.size w w2 from HB.out.trans ((GT.below h2 (Nat.le_trans HW12.out.2 HBW.out.size)).mono HW12.out.1))
        clear h1 h2 h3 h5 h6
        go_wp2_with fail
        refine (CI.out w2 (Reads.of_own HK2.out)).mono ?_
        rintro e w3 ⟨r, rfl, hr, hb3⟩
        have HEND := Lib.hid (HB3.out.trans (hb3.mono HB3.out.size))
        clear hb3
        rcases h4 with rfl | rfl
        · go_wp2
          go_ret
          exact ⟨rfl, HEND.out⟩
        · go_wp2
          go_ret
          exact ⟨rfl, HEND.out⟩
end Go.Proofs.YtmbjhpgemphmmaaDoor
