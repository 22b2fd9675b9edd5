/-
  WALKS of package flow: the tables of operators (ints, tests, bools); Whole.
  WALKS of package flow: apply of a division.
-/
import Derived.Test.YtmbjhpgemphmmaaDoorGr
import Derived.Laws.EntriesVeiled
import Derived.Maps.Own
import Derived.Maps.OwnSet
import Derived.StringKeys
import Derived.Test.YtmbjhpgemphmmaaDoorHs
import Derived.Deep.DeepCutAuto
namespace Go.Proofs.YtmbjhpgemphmmaaDoor
open Go.RowKit
/-- a function of the program as a value that is read: its number -/
noncomputable def fRead (v : Value) : Option (DataW Unit × List MemPlace) := open Classical in if h : ∃ f : Nat, v = .func (.func f) #[] #[] then some (.lit (.int .i64 (h.choose : Nat)), []) else none
theorem fRead_of (f : Nat) : fRead (.func (.func f) #[] #[]) = some (.lit (.int .i64 (f : Nat)), []) := by
  have h : ∃ g : Nat, (Value.func (.func f) #[] #[]) = .func (.func g) #[] #[] := ⟨f, rfl⟩
  unfold fRead
  rw [dif_pos h]
  have e := h.choose_spec
  injection e with e
  injection e with e
  exact congrArg (fun g : Nat => (some (DataW.lit (Lit.int .i64 (g : Nat)), []) : Option (DataW Unit × List MemPlace))) e.symm
theorem fRead_inv {v : Value} {f : Nat} {ps : List MemPlace} (h : fRead v = some (.lit (.int .i64 (f : Nat)), ps)) : v = .func (.func f) #[] #[] := by
  unfold fRead at h
  split at h
  · rename_i hx
    have e := hx.choose_spec
    simp only [Option.some.injEq, Prod.mk.injEq, DataW.lit.injEq, Lit.int.injEq, true_and] at h
    rw [e]
    have : hx.choose = f := by omega
    rw [this]
  · cases h
theorem lookupOk {P : Program} {w : World} {k b n t e : Nat} {R : Value → Option (DataW Unit × List MemPlace)} {D : DataW Unit} (h : w.ownsMap P k R b n D) (K : Maps.Keyed P k) (ht : P.underlying t = some (.map k e)) {z : Value} (hz : (zeroValue e).run P w = .ok z w)
    {key : Value} {kl : Lit} (hkey : keyOf P k key = some kl) (c : Bool) :
    ((Instr.lookup t (.map (some b)) key c).run P w = .ok (if c then .tuple #[z, .bool false] else z) w ∧ ∀ zd, D.atKey kl zd = zd) ∨
    ∃ v y, (Instr.lookup t (.map (some b)) key c).run P w = .ok (if c then .tuple #[v, .bool true] else v) w ∧ R v = some y ∧ ∀ zd, D.atKey kl zd = y.1 := by
  obtain ⟨es, clock, hb, F, _, rfl⟩ := h
  rcases Maps.fit_look c K ht hz hb F hkey with ⟨hrun, _, hat⟩ | ⟨e0, y, _, _, hrun, hRv, hat, _⟩
  · exact .inl ⟨hrun, hat⟩
  · exact .inr ⟨e0.val, y, hrun, hRv, hat⟩
theorem no_key {P : Program} {w : World} {k b n t e : Nat} {R : Value → Option (DataW Unit × List MemPlace)} {D : DataW Unit} (h : w.ownsMap P k R b n D) (K : Maps.Keyed P k) (ht : P.underlying t = some (.map k e)) {z : Value} (hz : (zeroValue e).run P w = .ok z w)
    {key : Value} {kl : Lit} (hkey : keyOf P k key = some kl) (hD : ∀ zd, D.atKey kl zd = zd) : (Instr.lookup t (.map (some b)) key true).run P w = .ok (.tuple #[z, .bool false]) w := by
  rcases lookupOk h K ht hz hkey true with ⟨h1, _⟩ | ⟨v, y, _, _, h3⟩
  · exact h1
  · have a1 := h3 .nil
    have a2 := h3 (.lit (.int .i64 0))
    rw [hD] at a1 a2
    rw [← a2] at a1
    cases a1
theorem has_key {P : Program} {w : World} {k b n t e f : Nat} {D : DataW Unit} (h : w.ownsMap P k fRead b n D) (K : Maps.Keyed P k) (ht : P.underlying t = some (.map k e)) {z : Value} (hz : (zeroValue e).run P w = .ok z w)
    {key : Value} {kl : Lit} (hkey : keyOf P k key = some kl) (hD : ∀ zd, D.atKey kl zd = .lit (.int .i64 (f : Nat))) : (Instr.lookup t (.map (some b)) key false).run P w = .ok (.func (.func f) #[] #[]) w := by
  rcases lookupOk h K ht hz hkey false with ⟨_, h2⟩ | ⟨v, y, h1, h2, h3⟩
  · have a1 := h2 .nil
    rw [hD] at a1
    cases a1
  · have a1 := h3 .nil
    rw [hD] at a1
    obtain ⟨y1, y2⟩ := y
    simp only at a1
    subst a1
    rw [fRead_inv h2] at h1
    exact h1
theorem run_makeMap_no {P : Program} (t : TypeId) (w : World) : (Instr.makeMap t none).run P w = .ok (.map (some w.heap.size)) (w.alloc (.map #[] 0)) := by
  simp [Instr.makeMap]
theorem keyStr {s : ByteArray} (hs : s.size ≤ maxLen) : keyOf Tryd.prog 9 (.string s) = some (.string s.data.toList) := WideMaps.keyOf_string_mk Tryd.underlying9 hs
theorem KS : Maps.Keyed Tryd.prog 9 := Maps.string_keyed Tryd.underlying9
def kS (l : List UInt8) : Lit := .string l
def intsD : DataW Unit := (((((DataW.map []).put (kS [43]) (.lit (.int .i64 105))).put (kS [45]) (.lit (.int .i64 106))).put (kS [42]) (.lit (.int .i64 107))).put (kS [47]) (.lit (.int .i64 108))).put (kS [109, 111, 100]) (.lit (.int .i64 109))
def testsD : DataW Unit := ((((DataW.map []).put (kS [60]) (.lit (.int .i64 97))).put (kS [60, 61]) (.lit (.int .i64 98))).put (kS [62]) (.lit (.int .i64 99))).put (kS [62, 61]) (.lit (.int .i64 100))
def boolsD : DataW Unit := ((((DataW.map []).put (kS [97, 110, 100]) (.lit (.int .i64 101))).put (kS [111, 114]) (.lit (.int .i64 102))).put (kS [120, 111, 114]) (.lit (.int .i64 103))).put (kS [61, 62]) (.lit (.int .i64 104))
def TabP (w : World) (D : DataW Unit) (e : Ending) (w' : World) : Prop := ∃ b, e = .returned (.map (some b)) ∧ Below w.heap.size w w' ∧ w'.ownsMap Tryd.prog 9 fRead b 10 D
theorem grown_own {w w' : World} {b B : Nat} (hB : B ≤ w.heap.size) (hb : B ≤ b) (h : w.grownBy w' (some b)) : Below B w w' := ⟨h.os, h.tape, h.output, h.size, fun k hk => h.block k (by omega) (fun e => by injection e with e; omega)⟩
set_option maxRecDepth 100000 in
set_option maxHeartbeats 1000000 in
theorem fints_any (w : World) : Calls Tryd.prog 75 #[] w (TabP w intsD) := by
  have hmk := run_makeMap_no (P := Tryd.prog) 147 w
  have o0 := World.ownsMap_made (H := Unit) w Tryd.prog 9 fRead
  obtain ⟨w1, r1, o1, g1⟩ := o0.update KS Tryd.underlying147 (by decide) (keyStr (s := ⟨#[43]⟩) (by decide)) (fRead_of 105)
  obtain ⟨w2, r2, o2, g2⟩ := o1.update KS Tryd.underlying147 (by decide) (keyStr (s := ⟨#[45]⟩) (by decide)) (fRead_of 106)
  obtain ⟨w3, r3, o3, g3⟩ := o2.update KS Tryd.underlying147 (by decide) (keyStr (s := ⟨#[42]⟩) (by decide)) (fRead_of 107)
  obtain ⟨w4, r4, o4, g4⟩ := o3.update KS Tryd.underlying147 (by decide) (keyStr (s := ⟨#[47]⟩) (by decide)) (fRead_of 108)
  obtain ⟨w5, r5, o5, g5⟩ := o4.update KS Tryd.underlying147 (by decide) (keyStr (s := ⟨#[109, 111, 100]⟩) (by decide)) (fRead_of 109)
  have b0 : Below w.heap.size w (w.alloc (.map #[] 0)) := (Below.refl _ _).alloc (Nat.le_refl _) _
  have b1 := b0.trans (grown_own b0.size (Nat.le_refl _) g1)
  have b2 := b1.trans (grown_own b1.size (Nat.le_refl _) g2)
  have b3 := b2.trans (grown_own b2.size (Nat.le_refl _) g3)
  have b4 := b3.trans (grown_own b3.size (Nat.le_refl _) g4)
  have b5 := b4.trans (grown_own b4.size (Nat.le_refl _) g5)
  have HB := Lib.hid b5
  have HO := Lib.hid (o5.mono (show 5 ≤ 10 by omega))
  clear o0 b0 o1 g1 b1 o2 g2 b2 o3 g3 b3 o4 g4 b4 o5 g5 b5
  go_enter Tryd.func75, Tryd.ntmps75
  go_wp2
  go_ret
  exact ⟨_, rfl, HB.out, HO.out⟩
set_option maxRecDepth 100000 in
set_option maxHeartbeats 1000000 in
theorem ftests_any (w : World) : Calls Tryd.prog 73 #[] w (TabP w testsD) := by
  have hmk := run_makeMap_no (P := Tryd.prog) 141 w
  have o0 := World.ownsMap_made (H := Unit) w Tryd.prog 9 fRead
  obtain ⟨w1, r1, o1, g1⟩ := o0.update KS Tryd.underlying141 (by decide) (keyStr (s := ⟨#[60]⟩) (by decide)) (fRead_of 97)
  obtain ⟨w2, r2, o2, g2⟩ := o1.update KS Tryd.underlying141 (by decide) (keyStr (s := ⟨#[60, 61]⟩) (by decide)) (fRead_of 98)
  obtain ⟨w3, r3, o3, g3⟩ := o2.update KS Tryd.underlying141 (by decide) (keyStr (s := ⟨#[62]⟩) (by decide)) (fRead_of 99)
  obtain ⟨w4, r4, o4, g4⟩ := o3.update KS Tryd.underlying141 (by decide) (keyStr (s := ⟨#[62, 61]⟩) (by decide)) (fRead_of 100)
  have b0 : Below w.heap.size w (w.alloc (.map #[] 0)) := (Below.refl _ _).alloc (Nat.le_refl _) _
  have b1 := b0.trans (grown_own b0.size (Nat.le_refl _) g1)
  have b2 := b1.trans (grown_own b1.size (Nat.le_refl _) g2)
  have b3 := b2.trans (grown_own b2.size (Nat.le_refl _) g3)
  have b4 := b3.trans (grown_own b3.size (Nat.le_refl _) g4)
  have HB := Lib.hid b4
  have HO := Lib.hid (o4.mono (show 4 ≤ 10 by omega))
  clear o0 b0 o1 g1 b1 o2 g2 b2 o3 g3 b3 o4 g4 b4
  go_enter Tryd.func73, Tryd.ntmps73
  go_wp2
  go_ret
  exact ⟨_, rfl, HB.out, HO.out⟩
set_option maxRecDepth 100000 in
set_option maxHeartbeats 1000000 in
theorem fbools_any (w : World) : Calls Tryd.prog 74 #[] w (TabP w boolsD) := by
  have hmk := run_makeMap_no (P := Tryd.prog) 145 w
  have o0 := World.ownsMap_made (H := Unit) w Tryd.prog 9 fRead
  obtain ⟨w1, r1, o1, g1⟩ := o0.update KS Tryd.underlying145 (by decide) (keyStr (s := ⟨#[97, 110, 100]⟩) (by decide)) (fRead_of 101)
  obtain ⟨w2, r2, o2, g2⟩ := o1.update KS Tryd.underlying145 (by decide) (keyStr (s := ⟨#[111, 114]⟩) (by decide)) (fRead_of 102)
  obtain ⟨w3, r3, o3, g3⟩ := o2.update KS Tryd.underlying145 (by decide) (keyStr (s := ⟨#[120, 111, 114]⟩) (by decide)) (fRead_of 103)
  obtain ⟨w4, r4, o4, g4⟩ := o3.update KS Tryd.underlying145 (by decide) (keyStr (s := ⟨#[61, 62]⟩) (by decide)) (fRead_of 104)
  have b0 : Below w.heap.size w (w.alloc (.map #[] 0)) := (Below.refl _ _).alloc (Nat.le_refl _) _
  have b1 := b0.trans (grown_own b0.size (Nat.le_refl _) g1)
  have b2 := b1.trans (grown_own b1.size (Nat.le_refl _) g2)
  have b3 := b2.trans (grown_own b2.size (Nat.le_refl _) g3)
  have b4 := b3.trans (grown_own b3.size (Nat.le_refl _) g4)
  have HB := Lib.hid b4
  have HO := Lib.hid (o4.mono (show 4 ≤ 10 by omega))
  clear o0 b0 o1 g1 b1 o2 g2 b2 o3 g3 b3 o4 g4 b4
  go_enter Tryd.func74, Tryd.ntmps74
  go_wp2
  go_ret
  exact ⟨_, rfl, HB.out, HO.out⟩
theorem intsD_quo : ∀ zd, intsD.atKey (kS [47]) zd = .lit (.int .i64 (108 : Nat)) := fun zd => by rfl
theorem intsD_rest : ∀ zd, intsD.atKey (kS [109, 111, 100]) zd = .lit (.int .i64 (109 : Nat)) := fun zd => by rfl
theorem testsD_quo : ∀ zd, testsD.atKey (kS [47]) zd = zd := fun zd => by rfl
theorem testsD_rest : ∀ zd, testsD.atKey (kS [109, 111, 100]) zd = zd := fun zd => by rfl
theorem boolsD_quo : ∀ zd, boolsD.atKey (kS [47]) zd = zd := fun zd => by rfl
theorem boolsD_rest : ∀ zd, boolsD.atKey (kS [109, 111, 100]) zd = zd := fun zd => by rfl
def small8 (a : Int) : Prop := -128 ≤ a ∧ a ≤ 127
theorem fquo_any {a b : Int} (ha : small8 a) (h0 : b ≠ 0) (w : World) : Calls Tryd.prog 108 #[.int .i64 a, .int .i64 b] w fun e w' => e = .returned (.int .i64 (a.tdiv b)) ∧ w = w' := by
  have hz : (b == 0) = false := by simpa using h0
  have hw : IntKind.i64.wrap (a.tdiv b) = a.tdiv b := by
    rw [IntKind.wrap_i64]
    have h1 : (a.tdiv b).natAbs ≤ a.natAbs := by rw [Int.natAbs_tdiv]; exact Nat.div_le_self _ _
    unfold small8 at ha
    omega
  clear ha
  go_enter Tryd.func108, Tryd.ntmps108
  go_wp2
  go_ret
  exact ⟨rfl, rfl⟩
theorem frest_any {a b : Int} (ha : small8 a) (h0 : b ≠ 0) (w : World) : Calls Tryd.prog 109 #[.int .i64 a, .int .i64 b] w fun e w' => e = .returned (.int .i64 (a.tmod b)) ∧ w = w' := by
  have hz : (b == 0) = false := by simpa using h0
  have hw : IntKind.i64.wrap (a.tmod b) = a.tmod b := by
    rw [IntKind.wrap_i64]
    have h1 : (a.tmod b).natAbs ≤ a.natAbs := by rw [Int.natAbs_tmod]; exact Nat.mod_le _ _
    unfold small8 at ha
    omega
  clear ha
  go_enter Tryd.func109, Tryd.ntmps109
  go_wp2
  go_ret
  exact ⟨rfl, rfl⟩
def i8 (n : Int) : Int := (n + 128) % 256 - 128
theorem i8_is (n : Int) : IntKind.i8.wrap n = i8 n := by
  have e : IntKind.i8.wrap n = if 128 ≤ n % 256 then n % 256 - 256 else n % 256 := by simp [IntKind.wrap, IntKind.bits, IntKind.signed]
  rw [e]
  unfold i8
  split <;> omega
theorem whole_any (n : Int) (w : World) : Calls Tryd.prog 72 #[.int .i64 n] w fun e w' => e = .returned (.agg #[.int .i64 2, .int .i64 (i8 n)]) ∧ Below w.heap.size w w' := by
  go_enter Tryd.func72, Tryd.ntmps72
  go_wp2
  have hw : wrap64 (IntKind.i8.wrap n) = i8 n := by
    rw [i8_is]
    unfold wrap64 i8
    omega
  rw [hw]
  exact bodyPost_ret (v := .agg #[.int .i64 2, .int .i64 (i8 n)]) (by simp [results, Tryd.results72, go_sem]) rfl ⟨rfl, (Below.refl _ _).alloc (Nat.le_refl _) _⟩
end Go.Proofs.YtmbjhpgemphmmaaDoor
namespace Go.Proofs.YtmbjhpgemphmmaaDoor
open Go.RowKit
theorem zero_t : ∃ z, ∀ w, (zeroValue 43).run Tryd.prog w = .ok z w := ⟨.nilFunc, fun w => by kernel_rfl⟩
theorem zero_b : ∃ z, ∀ w, (zeroValue 143).run Tryd.prog w = .ok z w := ⟨.nilFunc, fun w => by kernel_rfl⟩
theorem zero_i : ∃ z, ∀ w, (zeroValue 122).run Tryd.prog w = .ok z w := ⟨.nilFunc, fun w => by kernel_rfl⟩
attribute [local irreducible] wpSeq
set_option maxRecDepth 100000 in
set_option maxHeartbeats 2000000 in
theorem fapply_quo {w : World} {g : Nat} {a b : Int} (h : Blk w g 45 #[.int .i64 2, .int .i64 a, .int .i64 2, .int .i64 b]) (ha : small8 a) :
    Calls Tryd.prog 40 #[.string ⟨#[47]⟩, .slice (some ⟨g, 0, none⟩) 2 2] w fun e w' => e = .returned (.tuple #[.agg #[.int .i64 (if b = 0 then 0 else 2), .int .i64 (if b = 0 then 0 else i8 (a.tdiv b))], .bool (b == 0)]) ∧ Below w.heap.size w w' := by
  obtain ⟨z1, hz1⟩ := zero_t
  obtain ⟨z2, hz2⟩ := zero_b
  obtain ⟨z3, hz3⟩ := zero_i
  obtain ⟨W1, hW1⟩ : ∃ W1, W1 = w.alloc (.cells #[.int .i64 0, .int .i64 0] 45) := ⟨_, rfl⟩
  have hb1 : Below w.heap.size w W1 := by rw [hW1]; exact (Below.refl _ _).alloc (Nat.le_refl _) _
  have k1 : Blk W1 g 45 #[.int .i64 2, .int .i64 a, .int .i64 2, .int .i64 b] := by rw [hW1]; exact h.alloc _
  have x1 : Blk W1 w.heap.size 45 #[.int .i64 0, .int .i64 0] := by rw [hW1]; exact Blk.new w _ _
  have CT := Lib.hid (ftests_any W1.drew)
  have HZ := Lib.hid (And.intro hz1 (And.intro hz2 hz3))
  have HW1 := Lib.hid hW1
  have HB1 := Lib.hid hb1
  have HX1 := Lib.hid x1
  have HA := Lib.hid ha
  have c1 := k1.cell 1
  have c3 := k1.cell 3
  clear h ha hz1 hz2 hz3 hW1 hb1 k1 x1
  go_enter Tryd.func40, Tryd.ntmps40
  go_upto_region 1 with fail
  rw [← HW1.out]
  go_wp2_with fail
  refine wp_region_seq (S := fun w' => w'.cell? ⟨g, 1, none⟩ = some (.int .i64 a) ∧ w'.cell? ⟨g, 3, none⟩ = some (.int .i64 b)) [(0, false), (1, false), (2, false), (3, false), (4, false), (5, false), (6, false), (7, false), (8, false), (9, false)] (by kernel_rfl) (by kernel_rfl) (by kernel_rfl) (And.intro c1 c3) ?_
  iterate 10 (refine seq_take _ _ rfl (by kernel_rfl) (fun wv hv => by obtain ⟨hv1, hv2⟩ := hv; go_simp; try with_reducible rfl) ?_; simp only [Act.put, List.getElem_toArray, List.getElem_cons_zero, List.getElem_cons_succ, List.setIfInBounds_toArray, List.set_cons_zero, List.set_cons_succ])
  refine seq_nil ?_
  clear c1 c3
  go_wp2_with fail
  refine CT.out.mono ?_
  rintro e w2 ⟨b1, rfl, hb2, o2⟩
  have L1 := no_key o2 KS Tryd.underlying141 (HZ.out.1 w2) (keyStr (s := ⟨#[47]⟩) (by decide)) testsD_quo
  have HB2 := Lib.hid ((below_drewN HB1.out 1).trans (hb2.mono HB1.out.size))
  have HX2 := Lib.hid (HX1.out.drew.below hb2 HX1.out.lt)
  have CB := Lib.hid (fbools_any w2)
  clear hb2 o2
  go_wp2_with fail
  refine CB.out.mono ?_
  rintro e w3 ⟨b2, rfl, hb3, o3⟩
  have L2 := no_key o3 KS Tryd.underlying145 (HZ.out.2.1 w3) (keyStr (s := ⟨#[47]⟩) (by decide)) boolsD_quo
  have HB3 := Lib.hid (HB2.out.trans (hb3.mono HB2.out.size))
  have HX3 := Lib.hid (HX2.out.below hb3 HX2.out.lt)
  have CI := Lib.hid (fints_any w3)
  clear hb3 o3
  by_cases h0 : b = 0
  · have hz : (b == 0) = true := by simpa using h0
    have y0 := HX3.out.cell 0
    have y1 := HX3.out.cell 1
    have f0 := HX3.out.frozen 0
    have f1 := HX3.out.frozen 1
    have H0 := Lib.hid h0
    obtain ⟨W9, hW9⟩ : ∃ W9, W9 = (w3.setCell ⟨w.heap.size, 0, none⟩ (.int .i64 0)).setCell ⟨w.heap.size, 1, none⟩ (.int .i64 0) := ⟨_, rfl⟩
    have x9 : Blk W9 w.heap.size 45 #[.int .i64 0, .int .i64 0] := by rw [hW9]; exact (HX3.out.set_ 0 _).set_ 1 _
    have HB9 := Lib.hid (show Below w.heap.size w W9 by rw [hW9]; exact (HB3.out.setCell (Nat.le_refl _) _).setCell (Nat.le_refl _) _)
    have x90 := x9.cell 0
    have x91 := x9.cell 1
    have HW9 := Lib.hid hW9
    clear h0 hW9 x9
    go_wp2_with fail
    rw [← HW9.out]
    exact bodyPost_ret (v := .tuple #[.agg #[.int .i64 0, .int .i64 0], .bool true]) (by simp [results, Tryd.results40, go_sem, x90, x91]) rfl ⟨rfl, HB9.out⟩
  · have hz : (b == 0) = false := by simpa using h0
    have H0 := Lib.hid h0
    clear h0
    go_wp2_with fail
    refine CI.out.mono ?_
    rintro e w4 ⟨b3, rfl, hb4, o4⟩
    have L3 := has_key o4 KS Tryd.underlying147 (HZ.out.2.2 w4) (keyStr (s := ⟨#[47]⟩) (by decide)) intsD_quo
    have HB4 := Lib.hid (HB3.out.trans (hb4.mono HB3.out.size))
    have HX4 := Lib.hid (HX3.out.below hb4 HX3.out.lt)
    have CQ := Lib.hid (fquo_any (b := b) HA.out H0.out w4)
    have CW := Lib.hid (whole_any (a.tdiv b) w4)
    clear hb4 o4
    go_wp2_with fail
    refine CQ.out.mono ?_
    rintro e w' ⟨rfl, rfl⟩
    go_wp2_with fail
    refine CW.out.mono ?_
    rintro e w5 ⟨rfl, hb5⟩
    have x5 := HX4.out.below hb5 HX4.out.lt
    have y0 := x5.cell 0
    have y1 := x5.cell 1
    have f0 := x5.frozen 0
    have f1 := x5.frozen 1
    obtain ⟨W9, hW9⟩ : ∃ W9, W9 = (w5.setCell ⟨w.heap.size, 0, none⟩ (.int .i64 2)).setCell ⟨w.heap.size, 1, none⟩ (.int .i64 (i8 (a.tdiv b))) := ⟨_, rfl⟩
    have x9 : Blk W9 w.heap.size 45 #[.int .i64 2, .int .i64 (i8 (a.tdiv b))] := by rw [hW9]; exact (x5.set_ 0 _).set_ 1 _
    have HB9 := Lib.hid (show Below w.heap.size w W9 by rw [hW9]; exact ((HB4.out.trans (hb5.mono HB4.out.size)).setCell (Nat.le_refl _) _).setCell (Nat.le_refl _) _)
    have x90 := x9.cell 0
    have x91 := x9.cell 1
    have HW9 := Lib.hid hW9
    clear hb5 x5 hW9 x9
    go_wp2_with fail
    rw [← HW9.out]
    exact bodyPost_ret (v := .tuple #[.agg #[.int .i64 2, .int .i64 (i8 (a.tdiv b))], .bool false]) (by simp [results, Tryd.results40, go_sem, x90, x91]) rfl ⟨rfl, HB9.out⟩
set_option maxRecDepth 100000 in
set_option maxHeartbeats 2000000 in
theorem fapply_rest {w : World} {g : Nat} {a b : Int} (h : Blk w g 45 #[.int .i64 2, .int .i64 a, .int .i64 2, .int .i64 b]) (ha : small8 a) :
    Calls Tryd.prog 40 #[.string ⟨#[109, 111, 100]⟩, .slice (some ⟨g, 0, none⟩) 2 2] w fun e w' => e = .returned (.tuple #[.agg #[.int .i64 (if b = 0 then 0 else 2), .int .i64 (if b = 0 then 0 else i8 (a.tmod b))], .bool (b == 0)]) ∧ Below w.heap.size w w' := by
  obtain ⟨z1, hz1⟩ := zero_t
  obtain ⟨z2, hz2⟩ := zero_b
  obtain ⟨z3, hz3⟩ := zero_i
  obtain ⟨W1, hW1⟩ : ∃ W1, W1 = w.alloc (.cells #[.int .i64 0, .int .i64 0] 45) := ⟨_, rfl⟩
  have hb1 : Below w.heap.size w W1 := by rw [hW1]; exact (Below.refl _ _).alloc (Nat.le_refl _) _
  have k1 : Blk W1 g 45 #[.int .i64 2, .int .i64 a, .int .i64 2, .int .i64 b] := by rw [hW1]; exact h.alloc _
  have x1 : Blk W1 w.heap.size 45 #[.int .i64 0, .int .i64 0] := by rw [hW1]; exact Blk.new w _ _
  have CT := Lib.hid (ftests_any W1.drew)
  have HZ := Lib.hid (And.intro hz1 (And.intro hz2 hz3))
  have HW1 := Lib.hid hW1
  have HB1 := Lib.hid hb1
  have HX1 := Lib.hid x1
  have HA := Lib.hid ha
  have c1 := k1.cell 1
  have c3 := k1.cell 3
  clear h ha hz1 hz2 hz3 hW1 hb1 k1 x1
  go_enter Tryd.func40, Tryd.ntmps40
  go_upto_region 1 with fail
  rw [← HW1.out]
  go_wp2_with fail
  refine wp_region_seq (S := fun w' => w'.cell? ⟨g, 1, none⟩ = some (.int .i64 a) ∧ w'.cell? ⟨g, 3, none⟩ = some (.int .i64 b)) [(0, false), (1, false), (2, false), (3, false), (4, false), (5, false), (6, false), (7, false), (8, false), (9, false)] (by kernel_rfl) (by kernel_rfl) (by kernel_rfl) (And.intro c1 c3) ?_
  iterate 10 (refine seq_take _ _ rfl (by kernel_rfl) (fun wv hv => by obtain ⟨hv1, hv2⟩ := hv; go_simp; try with_reducible rfl) ?_; simp only [Act.put, List.getElem_toArray, List.getElem_cons_zero, List.getElem_cons_succ, List.setIfInBounds_toArray, List.set_cons_zero, List.set_cons_succ])
  refine seq_nil ?_
  clear c1 c3
  go_wp2_with fail
  refine CT.out.mono ?_
  rintro e w2 ⟨b1, rfl, hb2, o2⟩
  have L1 := no_key o2 KS Tryd.underlying141 (HZ.out.1 w2) (keyStr (s := ⟨#[109, 111, 100]⟩) (by decide)) testsD_rest
  have HB2 := Lib.hid ((below_drewN HB1.out 1).trans (hb2.mono HB1.out.size))
  have HX2 := Lib.hid (HX1.out.drew.below hb2 HX1.out.lt)
  have CB := Lib.hid (fbools_any w2)
  clear hb2 o2
  go_wp2_with fail
  refine CB.out.mono ?_
  rintro e w3 ⟨b2, rfl, hb3, o3⟩
  have L2 := no_key o3 KS Tryd.underlying145 (HZ.out.2.1 w3) (keyStr (s := ⟨#[109, 111, 100]⟩) (by decide)) boolsD_rest
  have HB3 := Lib.hid (HB2.out.trans (hb3.mono HB2.out.size))
  have HX3 := Lib.hid (HX2.out.below hb3 HX2.out.lt)
  have CI := Lib.hid (fints_any w3)
  clear hb3 o3
  by_cases h0 : b = 0
  · have hz : (b == 0) = true := by simpa using h0
    have y0 := HX3.out.cell 0
    have y1 := HX3.out.cell 1
    have f0 := HX3.out.frozen 0
    have f1 := HX3.out.frozen 1
    have H0 := Lib.hid h0
    obtain ⟨W9, hW9⟩ : ∃ W9, W9 = (w3.setCell ⟨w.heap.size, 0, none⟩ (.int .i64 0)).setCell ⟨w.heap.size, 1, none⟩ (.int .i64 0) := ⟨_, rfl⟩
    have x9 : Blk W9 w.heap.size 45 #[.int .i64 0, .int .i64 0] := by rw [hW9]; exact (HX3.out.set_ 0 _).set_ 1 _
    have HB9 := Lib.hid (show Below w.heap.size w W9 by rw [hW9]; exact (HB3.out.setCell (Nat.le_refl _) _).setCell (Nat.le_refl _) _)
    have x90 := x9.cell 0
    have x91 := x9.cell 1
    have HW9 := Lib.hid hW9
    clear h0 hW9 x9
    go_wp2_with fail
    rw [← HW9.out]
    exact bodyPost_ret (v := .tuple #[.agg #[.int .i64 0, .int .i64 0], .bool true]) (by simp [results, Tryd.results40, go_sem, x90, x91]) rfl ⟨rfl, HB9.out⟩
  · have hz : (b == 0) = false := by simpa using h0
    have H0 := Lib.hid h0
    clear h0
    go_wp2_with fail
    refine CI.out.mono ?_
    rintro e w4 ⟨b3, rfl, hb4, o4⟩
    have L3 := has_key o4 KS Tryd.underlying147 (HZ.out.2.2 w4) (keyStr (s := ⟨#[109, 111, 100]⟩) (by decide)) intsD_rest
    have HB4 := Lib.hid (HB3.out.trans (hb4.mono HB3.out.size))
    have HX4 := Lib.hid (HX3.out.below hb4 HX3.out.lt)
    have CQ := Lib.hid (frest_any (b := b) HA.out H0.out w4)
    have CW := Lib.hid (whole_any (a.tmod b) w4)
    clear hb4 o4
    go_wp2_with fail
    refine CQ.out.mono ?_
    rintro e w' ⟨rfl, rfl⟩
    go_wp2_with fail
    refine CW.out.mono ?_
    rintro e w5 ⟨rfl, hb5⟩
    have x5 := HX4.out.below hb5 HX4.out.lt
    have y0 := x5.cell 0
    have y1 := x5.cell 1
    have f0 := x5.frozen 0
    have f1 := x5.frozen 1
    obtain ⟨W9, hW9⟩ : ∃ W9, W9 = (w5.setCell ⟨w.heap.size, 0, none⟩ (.int .i64 2)).setCell ⟨w.heap.size, 1, none⟩ (.int .i64 (i8 (a.tmod b))) := ⟨_, rfl⟩
    have x9 : Blk W9 w.heap.size 45 #[.int .i64 2, .int .i64 (i8 (a.tmod b))] := by rw [hW9]; exact (x5.set_ 0 _).set_ 1 _
    have HB9 := Lib.hid (show Below w.heap.size w W9 by rw [hW9]; exact ((HB4.out.trans (hb5.mono HB4.out.size)).setCell (Nat.le_refl _) _).setCell (Nat.le_refl _) _)
    have x90 := x9.cell 0
    have x91 := x9.cell 1
    have HW9 := Lib.hid hW9
    clear hb5 x5 hW9 x9
    go_wp2_with fail
    rw [← HW9.out]
    exact bodyPost_ret (v := .tuple #[.agg #[.int .i64 2, .int .i64 (i8 (a.tmod b))], .bool false]) (by simp [results, Tryd.results40, go_sem, x90, x91]) rfl ⟨rfl, HB9.out⟩
end Go.Proofs.YtmbjhpgemphmmaaDoor
