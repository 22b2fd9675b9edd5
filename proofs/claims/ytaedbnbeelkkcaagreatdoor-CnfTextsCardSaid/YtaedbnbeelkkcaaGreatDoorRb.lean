/-
  WALKS: cnf.number, cnf.clause, cnf.Read of what was written.
-/
import Derived.Test.YtaedbnbeelkkcaaGreatDoorRd
import Derived.Test.YtaedbnbeelkkcaaGreatDoorRq
namespace Go.Proofs.YtaedbnbeelkkcaaGreatDoor
open Go.RowKit
def Mild (n : Int) : Prop := -100000000 ≤ n ∧ n ≤ 100000000
theorem number_back {w : World} {s : ByteArray} {n : Int} (hs : s.data.toList = Lib.itoa n) (hn : Mild n) (hz : s.size ≤ 1000000) (ht : Tens w) (ha : AtE w) :
    Calls Tryz.prog 27 #[.string s] w fun e w' => e = .returned (.tuple #[.int .i64 n, .bool true]) ∧ Below w.heap.size w w' := by
  refine (number_any hz ht ha).mono ?_
  have hi : NumIs s.data.toList n := ⟨by rw [hs]; exact Rd.atoi_itoa hn.1 hn.2, hs.symm⟩
  rintro e w' ⟨m, b, rfl, hb, ⟨rfl, hm⟩ | ⟨rfl, hno⟩⟩
  · have h1 := hm.1
    rw [hi.1] at h1
    injection h1 with h1
    subst h1
    exact ⟨rfl, hb⟩
  · exact absurd hi (hno n)
def CbR (W2 : World) (xs : List Int) (wl : Nat) (cv iv : Value) (wr : World) : Prop :=
  ∃ k : Nat, k ≤ wl ∧ iv = .int .i64 (k : Nat) ∧ (∃ A c, cv = .slice A (xs.take k).length c) ∧ wr.ownsRow W2.heap.size 3 1 cv (xs.take k).length (litVals (xs.take k)) ∧ Below W2.heap.size W2 wr
def CbP (w : World) (xs : List Int) (n : Nat) (e : Ending) (w' : World) : Prop :=
  ∃ (A : Option Addr) (c : Nat), e = .returned (.tuple #[.slice A n c, .bool true]) ∧ Below w.heap.size w w' ∧ w'.ownsRow w.heap.size 3 1 (.slice A n c) n (litVals xs)
set_option maxRecDepth 100000 in
set_option maxHeartbeats 4000000 in
theorem clause_back {w : World} {s : ByteArray} {xs : List Int} {n : Nat} (hxn : xs.length = n) (hsx : s.data.toList = Rd.txC xs) (hx : ∀ n ∈ xs, n ≠ 0 ∧ Mild n) (hs : s.size ≤ 100000) (ht : Tens w) (ha : AtE w) (hm : MaxL w) : Calls Tryz.prog 28 #[.string s] w (CbP w xs n) := by
  obtain ⟨i0, hi0, hz0, hz1, hz2⟩ := info_parts infoIntR_
  have HIN := Lib.hid (show _ ∧ _ ∧ _ ∧ _ from ⟨hi0, hz0, hz1, hz2⟩)
  have CS := split_any (c := 32) (by omega : s.size ≤ 1000000) hm
  obtain ⟨ws, hws⟩ : ∃ ws, Rd.pieces 32 s = ws := ⟨_, rfl⟩
  have hwz : ∀ x ∈ ws, x.size ≤ 1000000 := fun x hx => by rw [← hws] at hx; have := Rd.piece_size hx; omega
  have hwm : ws.map (·.data.toList) = xs.map Lib.itoa ++ [[48]] := by
    rw [← hws]
    have hj := Rd.words_join xs
    cases hxs : xs with
    | nil => exact Rd.pieces_is (by rw [hsx, hxs]; rw [hxs] at hj; rw [← hj]; rfl) (by decide) (by simp)
    | cons y r =>
      rw [hxs] at hj
      refine Rd.pieces_is (x := Lib.itoa y) (r := r.map Lib.itoa ++ [[48]]) (by rw [hsx, hxs, ← hj]; rfl) (fun h => (Rd.itoa_bytes y 32 h).2 rfl) fun z hz => ?_
      rcases List.mem_append.1 hz with hz | hz
      · obtain ⟨u, _, rfl⟩ := List.mem_map.1 hz
        exact fun h => (Rd.itoa_bytes u 32 h).2 rfl
      · rw [List.mem_singleton.1 hz]; decide
  have hwlen : ws.length = n + 1 := by have h := congrArg List.length hwm; simpa [hxn] using h
  have hwle : ws.length ≤ s.size + 1 := by rw [← hws]; exact Rd.pieces_le 32 s
  have hn1 : n ≤ s.size := by omega
  rw [hws, hwlen] at CS
  have CS := Lib.hid CS
  obtain ⟨W2, hW2⟩ : ∃ W2, W2 = w.alloc (.cells (ws.map Value.string).toArray 9) := ⟨_, rfl⟩
  have hb2 : Below w.heap.size w W2 := by rw [hW2]; exact (Below.refl _ _).alloc (Nat.le_refl _) _
  have k2 : Blk W2 w.heap.size 9 (ws.map Value.string).toArray := by rw [hW2]; exact Blk.new w _ _
  have HW2 := Lib.hid hW2
  have HB2 := Lib.hid hb2
  have HK2 := Lib.hid k2
  have HT := Lib.hid (ht.below hb2)
  have HA := Lib.hid (ha.below hb2)
  have HWZ := Lib.hid hwz
  have HWM := Lib.hid hwm
  have HWL := Lib.hid hwlen
  have HXN := Lib.hid hxn
  have HX := Lib.hid hx
  clear hi0 hz0 hz1 hz2 hws hwz hwm hwlen hwle hW2 hb2 k2 ht ha hm hxn hsx hx
  go_enter Tryz.func28, Tryz.ntmps28
  go_wp2_with fail
  refine CS.out.mono ?_
  rintro e w2 ⟨rfl, rfl⟩
  rw [← HW2.out]
  go_wp2_with fail
  go_loopw [5, 15] (fun cv iv wr => CbR W2 xs (n + 1) cv iv wr) (fun _ iv _ => n + 1 - (intOf iv).toNat)
  case atStart => exact ⟨0, Nat.zero_le _, rfl, ⟨_, _, rfl⟩, own_full0 (xs := []) (Nat.le_refl _) rfl (by omega), (Below.refl _ _).alloc (Nat.le_refl _) _⟩
  case round =>
    obtain ⟨k, hk, rfl, ⟨Ac, cc, rfl⟩, hown, hb⟩ := hrel
    obtain ⟨m, hm⟩ : ∃ m, (xs.take k).length = m := ⟨_, rfl⟩
    have hmk : m = min k n := by rw [← hm, List.length_take, HXN.out]
    rw [hm] at hown
    rw [hm]
    have HO := Lib.hid hown
    have HBW := Lib.hid hb
    have HB := Lib.hid (HB2.out.trans (hb.mono HB2.out.size))
    have HM := Lib.hid (And.intro hm hmk)
    have hmn : m ≤ n := by omega
    have hsw : W2.heap.size ≤ wr.heap.size := hb.size
    clear hown hb hm hmk
    by_cases hk2 : k < n + 1
    · obtain ⟨x, hx⟩ : ∃ x, ws[k]? = some x := ⟨_, List.getElem?_eq_getElem (by have := HWL.out; omega)⟩
      have ck : wr.cell? ⟨w.heap.size, k, none⟩ = some (.string x) := by
        rw [(HK2.out.below HBW.out HK2.out.lt).cell k]; simp [hx]
      have hxm : (ws.map (·.data.toList))[k]? = some x.data.toList := by rw [List.getElem?_map, hx]; rfl
      rw [HWM.out] at hxm
      have hxz := HWZ.out x (List.mem_of_getElem? hx)
      by_cases hlast : k = n
      · subst hlast
        rw [List.getElem?_append_right (by rw [List.length_map, HXN.out]; exact Nat.le_refl _), List.length_map, HXN.out, Nat.sub_self] at hxm
        have hx0 : x.data.toList = Lib.itoa 0 := by rw [Rd.itoa_0]; simpa using hxm.symm
        have CN := Lib.hid (number_back hx0 (by unfold Mild; omega) hxz (HT.out.below HBW.out) (HA.out.below HBW.out))
        have e1 : ((k : Int) == ((k + 1 : Nat) : Int) - 1) = true := by simp
        clear hx hxm hxz hx0
        go_wp2_with fail
        refine CN.out.mono ?_
        rintro e w3 ⟨rfl, hb3⟩
        have HBW3 := Lib.hid (HBW.out.trans (hb3.mono HBW.out.size))
        have HO3 := Lib.hid (own_chg HO.out (S := fun _ _ => False) (.of_new hb3) (by simp))
        clear hb3 ck
        go_wp2_with fail
        go_roundw
        case rel =>
          have htk : xs.take (k + 1) = xs.take k := by rw [List.take_of_length_le (by rw [HXN.out]; omega), List.take_of_length_le (by rw [HXN.out]; omega)]
          refine ⟨k + 1, by omega, by go_num, by rw [htk, HM.out.1]; exact ⟨_, _, rfl⟩, by rw [htk, HM.out.1]; exact HO3.out, HBW3.out⟩
        case measure => simp [intOf] <;> omega
      · have hkn : k < n := by omega
        obtain ⟨y, hy⟩ : ∃ y, xs[k]? = some y := ⟨_, List.getElem?_eq_getElem (by rw [HXN.out]; exact hkn)⟩
        rw [List.getElem?_append_left (by rw [List.length_map, HXN.out]; exact hkn), List.getElem?_map, hy] at hxm
        have hxy : x.data.toList = Lib.itoa y := by simpa using hxm.symm
        obtain ⟨hy0, hyb⟩ := HX.out y (List.mem_of_getElem? hy)
        obtain rfl : m = k := by have := HM.out.2; omega
        have CN := Lib.hid (number_back hxy hyb hxz (HT.out.below HBW.out) (HA.out.below HBW.out))
        have e1 : ((m : Int) == ((n + 1 : Nat) : Int) - 1) = false := by simp; omega
        have e0 : (y == 0) = false := by simpa using hy0
        have HY := Lib.hid hy
        clear hx hxm hxz hxy hyb hy0 hlast hy
        go_wp2_with fail
        refine CN.out.mono ?_
        rintro e w3 ⟨rfl, hb3⟩
        have HBW3 := Lib.hid (HBW.out.trans (hb3.mono HBW.out.size))
        have HO3 := Lib.hid (own_chg HO.out (S := fun _ _ => False) (.of_new hb3) (by simp))
        have hs3 : wr.heap.size ≤ w3.heap.size := hb3.size
        clear hb3 ck
        go_wp2_with (at_builtin; refine wpList_append_sl _ rfl (.tmp 39) (.tmp 41) _ rfl W2.heap.size 3 i0 _ 1 8 Tryz.underlying43 HIN.out.1 HIN.out.2.1 HIN.out.2.2.1 HIN.out.2.2.2 rfl (by omega) _ m _ rfl (HO3.out.alloc _) (w3.heap.size + 1) (some ⟨w3.heap.size, 0, none⟩) 1 1 [.int .i64 y] rfl (reads_new rfl (by omega) rfl) (ints_one (by simp)) (le_maxLen (by omega)) (le_bytes (by omega) (by omega)) (by simp; omega) ?_; intro A5 c5 w5 hown5 hg5)
        have hg6 : (w3.alloc (.cells #[.int .i64 y] 3)).grownBy w5 (Value.slice Ac m cc).ownBlock := hg5
        have HB5 := Lib.hid (own_grown_below0 HBW3.out HO3.out (Nat.le_refl _) hg6)
        have HO5 := Lib.hid (show w5.ownsRow W2.heap.size 3 1 (.slice A5 (m + 1) c5) (m + 1) (litVals (xs.take m ++ [y])) by unfold litVals at hown5 ⊢; rw [List.map_append]; exact hown5)
        clear hown5 hg5 hg6
        go_wp2_with fail
        go_roundw
        case rel =>
          have htk : xs.take (m + 1) = xs.take m ++ [y] := Gm.take_one HY.out
          have hl : (xs.take (m + 1)).length = m + 1 := by rw [htk, List.length_append, HM.out.1]; rfl
          refine ⟨m + 1, by omega, by go_num, by rw [hl]; exact ⟨_, _, rfl⟩, by rw [hl, htk]; exact HO5.out, HB5.out⟩
        case measure => simp [intOf]; omega
    · obtain rfl : n + 1 = k := by omega
      obtain rfl : m = n := by have := HM.out.2; omega
      have ho := HO.out
      rw [List.take_of_length_le (by rw [HXN.out]; omega)] at ho
      have HO2 := Lib.hid ho
      clear ho
      go_wp2_with fail
      go_ret2
      exact ⟨Ac, cc, rfl, HB.out, own_base HO2.out HB2.out.size⟩
def RbR (W6 : World) (bf : Nat) (v : Int) (cs : List (List Int)) (iv : Value) (wr : World) : Prop :=
  ∃ (k : Nat) (A : Option Addr) (c : Nat), k ≤ cs.length ∧ iv = .int .i64 (k : Nat) ∧ Blk wr bf 31 #[.int .i64 v, .slice A k c] ∧ CsAt wr W6.heap.size (.slice A k c) (cs.take k) ∧ Below bf W6 wr
/-- Read's answer -/
def RbP (w : World) (v : Int) (cs : List (List Int)) (n : Nat) (e : Ending) (w' : World) : Prop :=
  ∃ (A : Option Addr) (c : Nat), e = .returned (.tuple #[.agg #[.int .i64 v, .slice A n c], .nilIface]) ∧ Below w.heap.size w w' ∧ ClsR w' w'.heap.size A cs
theorem okF_in {v : Int} {cs : List (List Int)} (h : okF v cs = true) : 0 ≤ v ∧ v ≤ 150000 ∧ cs.length ≤ 500000 ∧ ∀ x ∈ cs, ∀ n ∈ x, n ≠ 0 ∧ Mild n := by
  unfold okF at h
  simp only [Bool.and_eq_true, decide_eq_true_eq] at h
  refine ⟨h.1.1.1, h.1.1.2, h.1.2, fun x hx n hn => ?_⟩
  have := okC_in (List.all_eq_true.1 h.2 x hx) hn
  unfold Mild; omega
theorem txC_len (x : List Int) : x.length ≤ (Rd.txC x).length := by
  unfold Rd.txC
  rw [List.length_append]
  induction x with
  | nil => simp
  | cons n r ih => simp only [List.length_cons, List.flatMap_cons, List.length_append, List.length_nil] at ih ⊢; omega
theorem txC_no10 (x : List Int) : (10 : UInt8) ∉ Rd.txC x := fun h => by
  unfold Rd.txC at h
  rcases List.mem_append.1 h with h | h
  · obtain ⟨n, _, h⟩ := List.mem_flatMap.1 h
    rcases List.mem_append.1 h with h | h
    · exact (Rd.itoa_bytes n 10 h).1 rfl
    · rw [List.mem_singleton] at h; exact absurd h (by decide)
  · rw [List.mem_singleton] at h; exact absurd h (by decide)
theorem hdL_no10 (v : Int) (m : Nat) : (10 : UInt8) ∉ hdL v m := fun h => by
  unfold hdL at h
  simp only [List.mem_append] at h
  rcases h with ((h | h) | h) | h
  · exact absurd h (by decide)
  · exact (Rd.itoa_bytes v 10 h).1 rfl
  · rw [List.mem_singleton] at h; exact absurd h (by decide)
  · exact (Rd.itoa_bytes m 10 h).1 rfl
theorem hdL_words {s : ByteArray} {v : Int} {m : Nat} (h : s.data.toList = hdL v m) : (Rd.pieces 32 s).map (·.data.toList) = [[112], [99, 110, 102], Lib.itoa v, Lib.itoa m] := by
  refine Rd.pieces_is (x := [112]) (r := [[99, 110, 102], Lib.itoa v, Lib.itoa m]) (by rw [h, Rd.head_join]; rfl) (by decide) fun y hy => ?_
  simp only [List.mem_cons, List.not_mem_nil, or_false] at hy
  rcases hy with rfl | rfl | rfl
  · decide
  · exact fun h => (Rd.itoa_bytes v 32 h).2 rfl
  · exact fun h => (Rd.itoa_bytes m 32 h).2 rfl
theorem bytes_toList {s : ByteArray} {l : List UInt8} (h : s.data.toList = l) : (s.toList == l) = true := by rw [ByteArray.toList_eq, h]; simp
set_option maxRecDepth 100000 in
set_option maxHeartbeats 16000000 in
theorem read_back {w : World} {s : ByteArray} {v : Int} {cs : List (List Int)} {n : Nat} (hn : cs.length = n) (hok : okF v cs = true) (hjn : Lib.trimSuffix s.data.toList [10] = Lib.join (hdL v n :: cs.map Rd.txC) [10]) (hs : s.size ≤ 100000) (ht : Tens w) (ha : AtE w) (hm : MaxL w) (he2 : SentAt w 0) (he3 : SentAt w 1) :
    Calls Tryz.prog 12 #[.string s] w (RbP w v cs n) := by
  obtain ⟨ic, hi0, hz0, hz1, hz2⟩ := info_parts infoClause_
  have HIC := Lib.hid (show _ ∧ _ ∧ _ ∧ _ from ⟨hi0, hz0, hz1, hz2⟩)
  have e0 : decide (200000 < (s.size : Int)) = false := decide_eq_false (by omega)
  obtain ⟨t, htr⟩ : ∃ t : ByteArray, t = ⟨(Lib.trimSuffix s.data.toList [10]).toArray⟩ := ⟨_, rfl⟩
  have htd : t.data.toList = Lib.trimSuffix s.data.toList [10] := by rw [htr]
  have hts : t.size ≤ s.size := by rw [Lib.size_eq, Lib.size_eq, htd]; exact trim_le _
  obtain ⟨W1, hW1⟩ : ∃ W1, W1 = w.alloc (.cells #[.int .i64 0, .slice none 0 0] 31) := ⟨_, rfl⟩
  have hb1 : Below w.heap.size w W1 := by rw [hW1]; exact (Below.refl _ _).alloc (Nat.le_refl _) _
  have k1 : Blk W1 w.heap.size 31 #[.int .i64 0, .slice none 0 0] := by rw [hW1]; exact Blk.new w _ _
  obtain ⟨lns, hlns⟩ : ∃ lns, Rd.pieces 10 t = lns := ⟨_, rfl⟩
  have hlm : lns.map (·.data.toList) = hdL v n :: cs.map Rd.txC := by
    rw [← hlns]
    refine Rd.pieces_is (by rw [htd, hjn]) (hdL_no10 v n) fun y hy => ?_
    obtain ⟨x, _, rfl⟩ := List.mem_map.1 hy
    exact txC_no10 x
  have hlz : ∀ x ∈ lns, x.size ≤ s.size := fun x hx => by rw [← hlns] at hx; have := Rd.piece_size hx; omega
  obtain ⟨l0, lr, hl0⟩ : ∃ l0 lr, lns = l0 :: lr := by
    cases h : lns with
    | nil => rw [h] at hlm; cases hlm
    | cons a b => exact ⟨a, b, rfl⟩
  rw [hl0, List.map_cons] at hlm
  have hl0d : l0.data.toList = hdL v n := by injection hlm
  have hlrd : lr.map (·.data.toList) = cs.map Rd.txC := by injection hlm
  have hlrl : lr.length = n := by have h := congrArg List.length hlrd; simpa [hn] using h
  have hll : lr.length ≤ s.size := by
    have h1 := Rd.pieces_le 10 t
    rw [hlns, hl0, List.length_cons] at h1; omega
  have CT : Calls Tryz.prog 25 #[.string s, .string ⟨#[10]⟩] W1 (fun e w' => e = .returned (.string t) ∧ w' = W1) := by rw [htr]; exact Tryz.strings_TrimSuffix s ⟨#[10]⟩ W1 (by omega)
  have CS := split_any (c := 10) (by omega : t.size ≤ 1000000) (hm.below hb1)
  rw [hlns] at CS
  obtain ⟨W2, hW2⟩ : ∃ W2, W2 = W1.alloc (.cells (lns.map Value.string).toArray 9) := ⟨_, rfl⟩
  rw [← hW2] at CS
  have hb2 : Below W1.heap.size W1 W2 := by rw [hW2]; exact (Below.refl _ _).alloc (Nat.le_refl _) _
  have k2 : Blk W2 W1.heap.size 9 (lns.map Value.string).toArray := by rw [hW2]; exact Blk.new W1 _ _
  have hbw2 : Below w.heap.size w W2 := hb1.trans (hb2.mono hb1.size)
  have c0 : W2.cell? ⟨W1.heap.size, 0, none⟩ = some (.string l0) := by rw [k2.cell 0, hl0]; rfl
  have CW := split_any (c := 32) (by have := hlz l0 (by rw [hl0]; simp); omega : l0.size ≤ 1000000) (hm.below hbw2)
  obtain ⟨ws, hws⟩ : ∃ ws, Rd.pieces 32 l0 = ws := ⟨_, rfl⟩
  have hwd : ws.map (·.data.toList) = [[112], [99, 110, 102], Lib.itoa v, Lib.itoa n] := by rw [← hws]; exact hdL_words hl0d
  have hwz : ∀ x ∈ ws, x.size ≤ 1000000 := fun x hx => by rw [← hws] at hx; have h1 := Rd.piece_size hx; have h2 := hlz l0 (by rw [hl0]; simp); omega
  have hw4 : ws.length = 4 := by have h := congrArg List.length hwd; simpa using h
  rw [hws, hw4] at CW
  obtain ⟨W3, hW3⟩ : ∃ W3, W3 = W2.alloc (.cells (ws.map Value.string).toArray 9) := ⟨_, rfl⟩
  rw [← hW3] at CW
  have hb3 : Below W2.heap.size W2 W3 := by rw [hW3]; exact (Below.refl _ _).alloc (Nat.le_refl _) _
  have k3 : Blk W3 W2.heap.size 9 (ws.map Value.string).toArray := by rw [hW3]; exact Blk.new W2 _ _
  obtain ⟨a, b, c, d, rfl⟩ := row4 hw4
  simp only [List.map_cons, List.map_nil, List.cons.injEq, and_true] at hwd
  obtain ⟨hwa, hwb, hwc, hwd⟩ := hwd
  have qa := bytes_toList hwa
  have qb := bytes_toList hwb
  have hnl : lns.length = n + 1 := by rw [hl0, List.length_cons, hlrl]
  rw [hnl] at CS
  rw [hlrl] at hll
  obtain ⟨hv0, hv1, hn5, hx⟩ := okF_in hok
  have HW1 := Lib.hid hW1
  have CT := Lib.hid CT
  have CS := Lib.hid CS
  have CW := Lib.hid CW
  have HC0 := Lib.hid c0
  have HK2 := Lib.hid (k2.below hb3 k2.lt)
  have HK1 := Lib.hid ((k1.below hb2 k1.lt).below hb3 (k1.below hb2 k1.lt).lt)
  have HK3 := Lib.hid k3
  have HB3 := Lib.hid (hbw2.trans (hb3.mono hbw2.size))
  have HX := Lib.hid (And.intro ht (And.intro ha (And.intro hm (And.intro he2 he3))))
  have HLZ := Lib.hid hlz
  have HL0 := Lib.hid hl0
  have HWZ := Lib.hid hwz
  have HLR := Lib.hid (And.intro hlrd hlrl)
  have HWC := Lib.hid (And.intro hwc hwd)
  have HN := Lib.hid hn
  have HOK := Lib.hid hok
  have HXS := Lib.hid hx
  have e5 : decide (v < 0) = false := decide_eq_false (by omega)
  have hvm : Mild v := by unfold Mild; omega
  have hnm : Mild (n : Int) := by unfold Mild; omega
  have HMM := Lib.hid (And.intro hvm hnm)
  clear hi0 hz0 hz1 hz2 htr htd hts hW1 hb1 k1 hlns hlm hlz hl0 hl0d hlrd hlrl hW2 hb2 k2 hbw2 c0 hws hwa hwb hwc hwd hwz hw4 hW3 hb3 k3 hnl ht ha hm he2 he3 hjn hn hok hx hvm hnm
  go_enter Tryz.func12, Tryz.ntmps12
  go_upto_region 1 with fail
  rw [← HW1.out]
  go_wp2_with fail
  refine CT.out.mono ?_
  rintro e wq ⟨rfl, hwq⟩
  obtain rfl := hwq.symm
  go_wp2_with fail
  refine CS.out.mono ?_
  rintro e wq ⟨rfl, hwq⟩
  obtain rfl := hwq.symm
  have c0 := HC0.out
  go_wp2_with fail
  refine CW.out.mono ?_
  rintro e wq ⟨rfl, hwq⟩
  obtain rfl := hwq.symm
  clear c0
  have c0 : W3.cell? ⟨W2.heap.size, 0, none⟩ = some (.string a) := by rw [HK3.out.cell 0]; rfl
  have c1 : W3.cell? ⟨W2.heap.size, 1, none⟩ = some (.string b) := by rw [HK3.out.cell 1]; rfl
  have c2 : W3.cell? ⟨W2.heap.size, 2, none⟩ = some (.string c) := by rw [HK3.out.cell 2]; rfl
  have C2 := Lib.hid (number_back (s := c) HWC.out.1 HMM.out.1 (HWZ.out c (by simp)) (HX.out.1.below HB3.out) (HX.out.2.1.below HB3.out))
  go_wp2_with fail
  refine C2.out.mono ?_
  rintro e w4 ⟨rfl, hb4⟩
  have HB4 := Lib.hid (HB3.out.trans (hb4.mono HB3.out.size))
  have HK14 := Lib.hid (HK1.out.below hb4 HK1.out.lt)
  have k34 := HK3.out.below hb4 HK3.out.lt
  have c3 : w4.cell? ⟨W2.heap.size, 3, none⟩ = some (.string d) := by rw [k34.cell 3]; rfl
  have HK24 := Lib.hid (HK2.out.below hb4 HK2.out.lt)
  have C3 := Lib.hid (number_back (s := d) HWC.out.2 HMM.out.2 (HWZ.out d (by simp)) (HX.out.1.below HB4.out) (HX.out.2.1.below HB4.out))
  clear c0 c1 c2 hb4 k34
  go_wp2_with fail
  refine C3.out.mono ?_
  rintro e w5 ⟨rfl, hb5⟩
  have HB5 := Lib.hid (HB4.out.trans (hb5.mono HB4.out.size))
  have HK15 := Lib.hid (HK14.out.below hb5 HK14.out.lt)
  have HK25 := Lib.hid (HK24.out.below hb5 HK24.out.lt)
  clear c3 hb5
  obtain ⟨W6, hW6⟩ : ∃ W6, W6 = w5.alloc (.cells #[.int .i64 v, .slice none 0 0] 31) := ⟨_, rfl⟩
  have hb6 : Below w5.heap.size w5 W6 := by rw [hW6]; exact (Below.refl _ _).alloc (Nat.le_refl _) _
  have k6 : Blk W6 w5.heap.size 31 #[.int .i64 v, .slice none 0 0] := by rw [hW6]; exact Blk.new w5 _ _
  have HB6 := Lib.hid (HB5.out.trans (hb6.mono HB5.out.size))
  have HK16 := Lib.hid (HK15.out.below hb6 HK15.out.lt)
  have HK26 := Lib.hid (HK25.out.below hb6 HK25.out.lt)
  have HKF := Lib.hid k6
  have HLF := Lib.hid (And.intro k6.lt (And.intro HK15.out.lt HK25.out.lt))
  have HW6 := Lib.hid hW6
  clear hW6 hb6 k6

  by_cases h0 : n = 0
  · subst h0
    go_upto_region 13 with fail
    rw [← HW6.out]
    go_wp2_with fail
    go_loopw [85] (fun iv wr => RbR W6 w5.heap.size v cs iv wr) (fun iv _ => cs.length - (intOf iv).toNat)
    case atStart => exact ⟨0, none, 0, Nat.zero_le _, rfl, HKF.out, CsAt.nil _ _, Below.refl _ _⟩
    case round =>
      obtain ⟨k, Al, cl, hk, rfl, hkf, hcs, hb⟩ := hrel
      rw [HN.out] at hk
      have HB := Lib.hid (HB6.out.trans (hb.mono HB5.out.size))
      have HBW := Lib.hid hb
      have HKFr := Lib.hid hkf
      have HCS := Lib.hid hcs
      have HK1r := Lib.hid (HK16.out.below hb HLF.out.2.1)
      have HK2r := Lib.hid (HK26.out.below hb HLF.out.2.2)
      have hsw : W6.heap.size ≤ wr.heap.size := hb.size
      clear hkf hcs hb
      obtain rfl : 0 = k := by omega
      have y0 := HKFr.out.cell 0
      have y1 := HKFr.out.cell 1
      have hcl := HCS.out
      rw [List.take_of_length_le (by rw [HN.out]; omega)] at hcl
      have HCL := Lib.hid hcl
      obtain ⟨p2, hp2⟩ := HX.out.2.2.2.1.below HB.out
      obtain ⟨p3, hp3⟩ := HX.out.2.2.2.2.below HB.out
      have hlx : ∀ x ∈ cs, x.length ≤ 1000000 := fun x hx => by
        obtain ⟨i, hi⟩ := List.getElem?_of_mem hx
        obtain ⟨z, hz⟩ : ∃ z, lr[i]? = some z := ⟨_, List.getElem?_eq_getElem (by have h1 := (List.getElem?_eq_some_iff.1 hi).1; have := HN.out; have := HLR.out.2; omega)⟩
        have hzd : z.data.toList = Rd.txC x := by
          have h1 := congrArg (·[i]?) HLR.out.1
          simpa [hz, hi] using h1
        have hzz := HLZ.out z (by rw [HL0.out]; exact List.mem_cons_of_mem _ (List.mem_of_getElem? hz))
        have h2 := txC_len x
        rw [← hzd, ← Lib.size_eq] at h2
        omega
      have CK := Lib.hid (check_any (v := v) (c := cl) HN.out hp3 hp2 (fun _ => hlx) (clsr_of_own HCL.out) (Nat.le_refl _))
      clear hp2 hp3 hcl hlx
      go_wp2_with fail
      refine CK.out.mono ?_
      rintro e w8 ⟨ev, rfl, hb8, hres⟩
      have HB8 := Lib.hid (HB.out.trans (hb8.mono HB.out.size))
      have HK18 := Lib.hid (HK1r.out.below hb8 HK1r.out.lt)
      have HKF8 := Lib.hid (HKFr.out.below hb8 HKFr.out.lt)
      have HCS8 := Lib.hid (HCL.out.chg hb8)
      clear hb8 y0 y1
      obtain ⟨_, rfl⟩ | ⟨hno, _⟩ := hres
      case inr => exact absurd (HOK.out.symm.trans hno) (by simp)
      have z0 := HKF8.out.cell 0
      have z1 := HKF8.out.cell 1
      have HC9 := Lib.hid (((HCS8.out.far HK18.out (by decide) (by decide) 0 (.int .i64 v)).far (HK18.out.set_ 0 _) (by decide) (by decide) 1 (.slice Al 0 cl)))
      have y0 := HK18.out.cell 0
      have y1 := HK18.out.cell 1
      have f0 := HK18.out.frozen 0
      have f1 := HK18.out.frozen 1
      obtain ⟨W9, hW9⟩ : ∃ W9, W9 = (w8.setCell ⟨w.heap.size, 0, none⟩ (.int .i64 v)).setCell ⟨w.heap.size, 1, none⟩ (.slice Al 0 cl) := ⟨_, rfl⟩
      have x9 : Blk W9 w.heap.size 31 #[.int .i64 v, .slice Al 0 cl] := by rw [hW9]; exact (HK18.out.set_ 0 _).set_ 1 _
      have HB9 := Lib.hid (show Below w.heap.size w W9 by rw [hW9]; exact (HB8.out.setCell (Nat.le_refl _) _).setCell (Nat.le_refl _) _)
      have HD9 := Lib.hid (show CsAt W9 W6.heap.size (.slice Al 0 cl) cs by rw [hW9]; exact HC9.out)
      have x90 := x9.cell 0
      have x91 := x9.cell 1
      have HW9 := Lib.hid hW9
      clear hW9 x9
      go_wp2_with fail
      rw [← HW9.out]
      exact bodyPost_ret (v := .tuple #[.agg #[.int .i64 v, .slice Al 0 cl], .nilIface]) (by simp [results, Tryz.results12, go_sem, x90, x91]) rfl ⟨_, _, rfl, HB9.out, clsr_of_own (n := 0) HD9.out⟩
  ·
    go_upto_region 13 with fail
    rw [← HW6.out]
    go_wp2_with fail
    go_loopw [85] (fun iv wr => RbR W6 w5.heap.size v cs iv wr) (fun iv _ => cs.length - (intOf iv).toNat)
    case atStart => exact ⟨0, none, 0, Nat.zero_le _, rfl, HKF.out, CsAt.nil _ _, Below.refl _ _⟩
    case round =>
      obtain ⟨k, Al, cl, hk, rfl, hkf, hcs, hb⟩ := hrel
      rw [HN.out] at hk
      have HB := Lib.hid (HB6.out.trans (hb.mono HB5.out.size))
      have HBW := Lib.hid hb
      have HKFr := Lib.hid hkf
      have HCS := Lib.hid hcs
      have HK1r := Lib.hid (HK16.out.below hb HLF.out.2.1)
      have HK2r := Lib.hid (HK26.out.below hb HLF.out.2.2)
      have hsw : W6.heap.size ≤ wr.heap.size := hb.size
      clear hkf hcs hb
      by_cases hk2 : k < n
      · obtain ⟨x, hx⟩ : ∃ x, lr[k]? = some x := ⟨_, List.getElem?_eq_getElem (by have := HLR.out.2; omega)⟩
        obtain ⟨xs, hxs⟩ : ∃ xs, cs[k]? = some xs := ⟨_, List.getElem?_eq_getElem (by have := HN.out; omega)⟩
        have hxd : x.data.toList = Rd.txC xs := by
          have h1 := congrArg (·[k]?) HLR.out.1
          simpa [hx, hxs] using h1
        have cx : wr.cell? ⟨W1.heap.size, k + 1, none⟩ = some (.string x) := by rw [HK2r.out.cell (k + 1), HL0.out]; simp [hx]
        have cx' : wr.cell? ⟨W1.heap.size, 1 + k, none⟩ = some (.string x) := by rw [Nat.add_comm]; exact cx
        have hxz := HLZ.out x (by rw [HL0.out]; exact List.mem_cons_of_mem _ (List.mem_of_getElem? hx))
        obtain ⟨mx, hmx⟩ : ∃ mx, xs.length = mx := ⟨_, rfl⟩
        have CC := Lib.hid (clause_back (s := x) hmx hxd (HXS.out xs (List.mem_of_getElem? hxs)) (by omega) (HX.out.1.below HB.out) (HX.out.2.1.below HB.out) (HX.out.2.2.1.below HB.out))
        have HX2 := Lib.hid (And.intro hxs hmx)
        clear hx hxs hxd hxz hmx
        go_wp2_with fail
        refine CC.out.mono ?_
        rintro e w7 ⟨Ax, cxx, rfl, hb7, hox⟩
        have HBW7 := Lib.hid (HBW.out.trans (hb7.mono (Nat.le_of_lt HKFr.out.lt)))
        have HKF7 := Lib.hid (HKFr.out.below hb7 HKFr.out.lt)
        have HCS7 := Lib.hid (HCS.out.chg hb7)
        have hs7 : wr.heap.size ≤ w7.heap.size := hb7.size
        have htl : (cs.take k).length = k := by rw [List.length_take, HN.out]; omega
        clear hb7 cx cx'
        obtain ⟨rows, hrow, hcl⟩ := HCS7.out
        have hox2 : w7.ownsRow W6.heap.size 3 1 (.slice Ax mx cxx) xs.length (litVals xs) := by rw [HX2.out.2]; exact own_base hox hsw
        rw [htl] at hrow
        have HROW := Lib.hid hrow
        have HCL := Lib.hid hcl
        have HOX := Lib.hid hox2
        have HTL := Lib.hid htl
        have y1 := HKF7.out.cell 1
        clear hrow hcl hox hox2 htl
        go_wp2_with (at_builtin; refine wpList_append_sl _ rfl (.tmp 104) (.tmp 106) _ rfl W6.heap.size 43 ic _ 1 24 Tryz.underlying22 HIC.out.1 HIC.out.2.1 HIC.out.2.2.1 HIC.out.2.2.2 rfl (by omega) _ k _ rfl (HROW.out.alloc _) (w7.heap.size + 1) (some ⟨w7.heap.size, 0, none⟩) 1 1 [.slice Ax mx cxx] rfl (reads_new rfl (by omega) rfl) (fun u hu => by rw [List.mem_singleton.1 hu]; rfl) (le_maxLen (by omega)) (le_bytes (by omega) (by omega)) (by simp; omega) ?_; intro A8 c8 w8 hown8 hg8; have hpp := rd_push (cs := cs.take k) (x := xs) (cv := .slice Ax mx cxx) HBW7.out HKF7.out HLF.out.1 (by rw [HTL.out]; exact HROW.out) HCL.out HOX.out hg8 (by rw [HTL.out]; exact hown8); have z1 := hpp.2.2.2.cell 1; have zf := hpp.2.2.2.frozen 1; have HPP := Lib.hid hpp; clear hpp y1 hown8 hg8)
        go_roundw
        case rel => exact ⟨k + 1, A8, c8, by have := HN.out; omega, by go_num, HPP.out.2.1, by rw [Gm.take_one HX2.out.1]; exact HPP.out.2.2.1, HPP.out.1⟩
        case measure => have := HN.out; simp [intOf] <;> omega
      · obtain rfl : n = k := by omega
        have y0 := HKFr.out.cell 0
        have y1 := HKFr.out.cell 1
        have hcl := HCS.out
        rw [List.take_of_length_le (by rw [HN.out]; omega)] at hcl
        have HCL := Lib.hid hcl
        obtain ⟨p2, hp2⟩ := HX.out.2.2.2.1.below HB.out
        obtain ⟨p3, hp3⟩ := HX.out.2.2.2.2.below HB.out
        have hlx : ∀ x ∈ cs, x.length ≤ 1000000 := fun x hx => by
          obtain ⟨i, hi⟩ := List.getElem?_of_mem hx
          obtain ⟨z, hz⟩ : ∃ z, lr[i]? = some z := ⟨_, List.getElem?_eq_getElem (by have h1 := (List.getElem?_eq_some_iff.1 hi).1; have := HN.out; have := HLR.out.2; omega)⟩
          have hzd : z.data.toList = Rd.txC x := by
            have h1 := congrArg (·[i]?) HLR.out.1
            simpa [hz, hi] using h1
          have hzz := HLZ.out z (by rw [HL0.out]; exact List.mem_cons_of_mem _ (List.mem_of_getElem? hz))
          have h2 := txC_len x
          rw [← hzd, ← Lib.size_eq] at h2
          omega
        have CK := Lib.hid (check_any (v := v) (c := cl) HN.out hp3 hp2 (fun _ => hlx) (clsr_of_own HCL.out) (Nat.le_refl _))
        clear hp2 hp3 hcl hlx
        go_wp2_with fail
        refine CK.out.mono ?_
        rintro e w8 ⟨ev, rfl, hb8, hres⟩
        have HB8 := Lib.hid (HB.out.trans (hb8.mono HB.out.size))
        have HK18 := Lib.hid (HK1r.out.below hb8 HK1r.out.lt)
        have HKF8 := Lib.hid (HKFr.out.below hb8 HKFr.out.lt)
        have HCS8 := Lib.hid (HCL.out.chg hb8)
        clear hb8 y0 y1
        obtain ⟨_, rfl⟩ | ⟨hno, _⟩ := hres
        case inr => exact absurd (HOK.out.symm.trans hno) (by simp)
        have z0 := HKF8.out.cell 0
        have z1 := HKF8.out.cell 1
        have HC9 := Lib.hid (((HCS8.out.far HK18.out (by decide) (by decide) 0 (.int .i64 v)).far (HK18.out.set_ 0 _) (by decide) (by decide) 1 (.slice Al n cl)))
        have y0 := HK18.out.cell 0
        have y1 := HK18.out.cell 1
        have f0 := HK18.out.frozen 0
        have f1 := HK18.out.frozen 1
        obtain ⟨W9, hW9⟩ : ∃ W9, W9 = (w8.setCell ⟨w.heap.size, 0, none⟩ (.int .i64 v)).setCell ⟨w.heap.size, 1, none⟩ (.slice Al n cl) := ⟨_, rfl⟩
        have x9 : Blk W9 w.heap.size 31 #[.int .i64 v, .slice Al n cl] := by rw [hW9]; exact (HK18.out.set_ 0 _).set_ 1 _
        have HB9 := Lib.hid (show Below w.heap.size w W9 by rw [hW9]; exact (HB8.out.setCell (Nat.le_refl _) _).setCell (Nat.le_refl _) _)
        have HD9 := Lib.hid (show CsAt W9 W6.heap.size (.slice Al n cl) cs by rw [hW9]; exact HC9.out)
        have x90 := x9.cell 0
        have x91 := x9.cell 1
        have HW9 := Lib.hid hW9
        clear hW9 x9
        go_wp2_with fail
        rw [← HW9.out]
        exact bodyPost_ret (v := .tuple #[.agg #[.int .i64 v, .slice Al n cl], .nilIface]) (by simp [results, Tryz.results12, go_sem, x90, x91]) rfl ⟨_, _, rfl, HB9.out, clsr_of_own (n := n) HD9.out⟩
end Go.Proofs.YtaedbnbeelkkcaaGreatDoor
