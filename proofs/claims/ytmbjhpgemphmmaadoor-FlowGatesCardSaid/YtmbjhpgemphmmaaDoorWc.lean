/-
  WALKS of package word (chapter 10): Const, Value, Bits.
-/
import Derived.Test.YtmbjhpgemphmmaaDoorCo
import Derived.Test.YtmbjhpgemphmmaaDoorLp
namespace Go.Proofs.YtmbjhpgemphmmaaDoor
open Go.RowKit

theorem infoLitW : (Tryd.prog.info? 29).map (fun i => (i.zero, i.size, i.bytes)) = some (some (.int .i64 0), 1, 8) := by kernel_rfl
theorem infoBoolW : (Tryd.prog.info? 4).map (fun i => (i.zero, i.size, i.bytes)) = some (some (.bool false), 1, 1) := by kernel_rfl
/-- the bits of n, the lowest first: so many -/
def bitsTo (n : Int) (k : Nat) : List Int := (List.range k).map fun i => n / 2 ^ i % 2
theorem and_one (x : Int) : bits BinOp.and IntKind.i64 x 1 = x % 2 := by
  show IntKind.i64.wrap ((BitVec.ofInt 64 x &&& BitVec.ofInt 64 1).toNat : Int) = _
  have h1 : (BitVec.ofInt 64 x &&& BitVec.ofInt 64 1).toNat = (BitVec.ofInt 64 x).toNat % 2 := by
    rw [BitVec.toNat_and, show (BitVec.ofInt 64 1).toNat = 1 from rfl, Nat.and_one_is_mod]
  rw [h1, BitVec.toNat_ofInt, IntKind.wrap_i64]
  omega
theorem bitsTo_succ (n : Int) (k : Nat) : bitsTo n (k + 1) = bitsTo n k ++ [n / 2 ^ k % 2] := by simp [bitsTo, List.range_succ]
/-- a loop that appends: what it has -/
def ARel (W : World) (e : TypeId) (k : Nat) (xs : List Value) (v : Value) (w : World) : Prop :=
  ∃ A c, v = .slice A k c ∧ w.ownsRow W.heap.size e 1 v k xs ∧ Below W.heap.size W w
theorem ARel.start (W : World) (e : TypeId) {w : World} (h : Below W.heap.size W w) : ARel W e 0 [] (.slice none 0 0) w :=
  ⟨none, 0, rfl, World.ownsRow_nil _ _ _ _, h⟩
theorem ARel.next {W w w1 : World} {e : TypeId} {k : Nat} {xs : List Value} {A A' : Option Addr} {c c' : Nat} {x : Value} {o : Obj} (h : ARel W e k xs (.slice A k c) w)
    (h1 : w1.ownsRow W.heap.size e 1 (.slice A' (k + 1) c') (k + 1) (xs ++ [x])) (hg : (w.alloc o).grownBy w1 (Value.slice A k c).ownBlock) : ARel W e (k + 1) (xs ++ [x]) (.slice A' (k + 1) c') w1 := by
  obtain ⟨_, _, he, ho, hb⟩ := h
  exact ⟨A', c', rfl, h1, (hb.alloc hb.size o).grown hg (by simpa using Nat.le_trans hb.size (Nat.le_succ _)) fun j hj => (ho.lt j hj).1⟩
/-- a slice of k cells that the call has made -/
def Made (W : World) (e : TypeId) (xs : List Value) (v : Value) (w : World) : Prop := ∃ A c, v = .slice A xs.length c ∧ w.ownsRow W.heap.size e 1 v xs.length xs
set_option maxHeartbeats 400000 in
theorem const_any {n : Int} (h1 : -128 ≤ n) (h2 : n ≤ 127) (w : World) :
    Calls Tryd.prog 16 #[.int .i64 n] w fun e w' => ∃ v, e = .returned (.tuple #[v, .nilIface]) ∧ ARel w 29 8 (litVals (bitsTo n 8)) v w' := by
  obtain ⟨i0, hi⟩ := info_parts infoLitW
  have HI := Lib.hid hi
  clear hi
  have e0 : decide (n < -128) = false := decide_eq_false (by omega)
  have e1 : decide (127 < n) = false := decide_eq_false (by omega)
  clear h1 h2
  go_enter Tryd.func16, Tryd.ntmps16
  go_wp2_with fail
  clear e0 e1
  go_loopw [4, 13] (fun v i wr => ∃ k : Nat, k ≤ 8 ∧ i = .int .i64 k ∧ ARel w 29 k (litVals (bitsTo n k)) v wr) (fun _ i _ => 8 - (intOf i).toNat)
  case atStart => exact ⟨0, by omega, rfl, ARel.start _ _ (Below.refl _ _)⟩
  case round =>
    obtain ⟨k, hk, rfl, hr⟩ := hrel
    obtain ⟨A, c, rfl, hown, hbl⟩ := id hr
    have HR := Lib.hid hr
    have HO := Lib.hid hown
    have HB := Lib.hid hbl
    have HB' := Lib.hid (Nat.le_trans hbl.size (Nat.le_succ wr.heap.size))
    clear hr hown hbl
    by_cases hlt : k < 8
    · go_wp2_with (at_builtin; refine wpList_append_sl _ rfl (.tmp 16) (.tmp 21) _ rfl w.heap.size 29 i0 _ 1 8 Tryd.underlying28 HI.out.1 HI.out.2.1 HI.out.2.2.1 HI.out.2.2.2 rfl (by omega) _ k _ rfl (HO.out.alloc _) (wr.heap.size + 1) (some ⟨wr.heap.size, 0, none⟩) 1 1 _ rfl (reads_new rfl (by omega) rfl) (ints_one (by simp)) (le_maxLen (by omega)) (le_bytes (by omega) (by omega)) (by have := HB'.out; simp; omega) ?_; intro A1 c1 w1 hown1 hg1)
      go_roundw
      case rel =>
        refine ⟨k + 1, by omega, by go_num, ?_⟩
        rw [and_one] at hown1 hg1
        have h := HR.out.next hown1 hg1
        rwa [bitsTo_succ, litVals, List.map_append]
      case measure => simp [intOf]; omega
    · go_wp2
      go_ret2
      obtain rfl : k = 8 := by omega
      exact ⟨_, rfl, HR.out⟩

theorem const_bad {w : World} {p : Addr} {n : Int} (he : w.cell? ⟨2, 0, none⟩ = some (.iface 220 (.pointer (some p)))) (h : n < -128 ∨ 127 < n) :
    Calls Tryd.prog 16 #[.int .i64 n] w fun e w' => e = .returned (.tuple #[.slice none 0 0, .iface 220 (.pointer (some p))]) ∧ Below w.heap.size w w' := by
  by_cases h0 : n < -128
  · have e0 : decide (n < -128) = true := decide_eq_true h0
    clear h h0
    go_enter Tryd.func16, Tryd.ntmps16
    go_wp2_with fail
    go_quiet (fail)
    go_wp2
    go_ret2
    exact ⟨rfl, below_drewN (Below.refl _ _) _⟩
  · have e0 : decide (n < -128) = false := decide_eq_false h0
    have e1 : decide (127 < n) = true := decide_eq_true (h.resolve_left h0)
    clear h h0
    go_enter Tryd.func16, Tryd.ntmps16
    go_wp2_with fail
    go_quiet (fail)
    go_wp2
    go_ret2
    exact ⟨rfl, below_drewN (Below.refl _ _) _⟩

/-- a number of bits, the lowest first -/
def num : List Bool → Nat
  | [] => 0
  | b :: r => (if b then 1 else 0) + 2 * num r
theorem num_snoc (l : List Bool) (b : Bool) : num (l ++ [b]) = num l + (if b then 2 ^ l.length else 0) := by
  induction l with
  | nil => simp [num]
  | cons x l ih => cases b <;> simp only [List.cons_append, num, ih, List.length_cons, Nat.pow_succ, if_true, Bool.false_eq_true, if_false] <;> omega
theorem num_lt (l : List Bool) : num l < 2 ^ l.length := by
  induction l with
  | nil => simp [num]
  | cons x l ih => simp only [num, List.length_cons, Nat.pow_succ]; split <;> omega
def VRel (l : List Bool) (n i : Value) : Prop := ∃ k : Nat, k ≤ l.length ∧ i = .int .i64 k ∧ n = .int .i64 (num (l.take k) : Nat)
theorem or_pow (a k : Nat) (hk : k < 62) (ha : a < 2 ^ k) : bits BinOp.or IntKind.i64 (a : Int) ((2 : Int) ^ k) = ((a + 2 ^ k : Nat) : Int) := by
  have h2 : (2 : Nat) ^ k < 2 ^ 62 := Nat.pow_lt_pow_right (by omega) hk
  have e : ((2 : Int) ^ k) = ((2 ^ k : Nat) : Int) := by simp
  rw [e, i64_or_nat a (2 ^ k) (by omega) (by omega)]
  congr 1
  have h := Nat.two_pow_add_eq_or_of_lt ha 1
  rw [Nat.mul_one] at h
  rw [Nat.or_comm, ← h, Nat.add_comm]
def signed (n : Nat) : Int := if n < 128 then n else (n : Int) - 256
theorem i8_wrap (n : Nat) (h : n < 256) : wrap64 (IntKind.i8.wrap (n : Int)) = signed n := by
  have e : IntKind.i8.wrap (n : Int) = signed n := by
    unfold signed
    have h1 : ((n : Int) % 2 ^ 8) = (n : Int) := by
      rw [show ((2 : Int) ^ 8) = 256 from rfl]; omega
    simp only [IntKind.wrap, IntKind.bits, IntKind.signed, h1, Bool.true_and, decide_eq_true_eq]
    rw [show ((2 : Int) ^ 8) = 256 from rfl, show ((2 : Int) ^ (8 - 1)) = 128 from rfl]
    by_cases hn : n < 128
    · rw [if_neg (by omega), if_pos hn]
    · rw [if_pos (by omega), if_neg hn]
  rw [e]
  unfold signed
  split <;> (unfold wrap64; omega)
/-- what Value tells -/
def valOf (l : List Bool) : Int × Int := if l.length = 1 then (1, (num l : Nat)) else if l.length = 8 then (2, signed (num l)) else (0, 0)
def VPost (w : World) (v : Int × Int) (err : Value) (e : Ending) (w' : World) : Prop := e = .returned (.tuple #[.agg #[.int .i64 v.1, .int .i64 v.2], err]) ∧ Below w.heap.size w w'
theorem pow_wrap (k : Nat) (h : k < 60) : wrap64 ((2 : Int) ^ k) = 2 ^ k := by
  have h2 : (2 : Nat) ^ k < 2 ^ 60 := Nat.pow_lt_pow_right (by omega) h
  have e : ((2 : Int) ^ k) = ((2 ^ k : Nat) : Int) := by simp
  rw [e]
  generalize 2 ^ k = m at h2
  have h3 : (2 : Nat) ^ 60 = 1152921504606846976 := rfl
  rw [h3] at h2
  unfold wrap64
  omega
set_option maxHeartbeats 400000 in
theorem value_one {w : World} {p : Addr} {A : Option Addr} {c : Nat} {l : List Bool} (he : w.cell? ⟨0, 0, none⟩ = some (.iface 220 (.pointer (some p)))) (hl : l.length = 1)
    (hr : Reads w w.heap.size 1 A l.length (boolVals l)) :
    Calls Tryd.prog 19 #[.slice A l.length c] w (VPost w (valOf l) (.nilIface)) := by
  have HR := Lib.hid (hr.alloc (Nat.le_refl _) (.cells #[.int .i64 0, .int .i64 0] 45))
  have hlt := World.block_lt_of_cell? w _ he
  have HL : Hid (l.length ≤ 60) := by rw [hl]; exact Nat.le_of_ble_eq_true rfl
  have e1 : ((l.length : Int) == 1) = true := by rw [hl]; rfl
  have HV : Hid (valOf l = (1, ((num l : Nat) : Int))) := by unfold valOf; exact if_pos hl
  clear hr hl
  go_enter Tryd.func19, Tryd.ntmps19
  go_wp2_with fail
  go_loop [4, 9] (fun n i => VRel l n i) (fun _ i => l.length - (intOf i).toNat)
  case atStart => exact ⟨0, by omega, rfl, rfl⟩
  case round =>
    obtain ⟨k, hk, rfl, rfl⟩ := hrel
    by_cases hlt : k < l.length
    · obtain ⟨ad, u, rfl, _, hx, hc⟩ := HR.out.at_ hlt
      have hu : u = .bool (l[k]'hlt) := by
        have : (boolVals l)[k]? = some (.bool (l[k]'hlt)) := by simp [boolVals, List.getElem?_eq_getElem hlt]
        rw [this] at hx; exact (Option.some.inj hx).symm
      subst hu
      obtain ⟨bk, hbk⟩ : ∃ bk, bk = l[k]'hlt := ⟨_, rfl⟩
      rw [← hbk] at hc
      obtain ⟨acc, hacc⟩ : ∃ acc, acc = num (l.take k) := ⟨_, rfl⟩
      rw [← hacc]
      have hal : acc < 2 ^ k := by rw [hacc]; have := num_lt (l.take k); rwa [List.length_take, Nat.min_eq_left hk] at this
      have hsn : num (l.take (k + 1)) = acc + (if bk then 2 ^ k else 0) := by
        rw [List.take_succ_eq_append_getElem hlt, num_snoc, ← hacc, ← hbk, List.length_take, Nat.min_eq_left hk]
      have hkl := HL.out
      have HS := Lib.hid hsn
      have HW := Lib.hid (pow_wrap k (by omega))
      have HO := Lib.hid (or_pow acc k (by omega) hal)
      have hkk : (k : Int) < 60 := by omega
      clear hx hbk hacc hal hsn hkl
      cases bk
      · go_wp2
        go_round
        case rel => exact ⟨k + 1, by omega, by go_num, by rw [HS.out]; rfl⟩
        case measure => simp [intOf]; omega
      · go_wp2
        go_round
        case rel => exact ⟨k + 1, by omega, by go_num, by rw [HS.out, HW.out, HO.out]; rfl⟩
        case measure => simp [intOf]; omega
    · obtain rfl : k = l.length := by omega
      rw [List.take_length]
      go_wp2
      exact bodyPost_ret (v := .tuple #[.agg #[.int .i64 1, .int .i64 (num l : Nat)], .nilIface]) (by simp [results, Tryd.results19, go_sem]) rfl ⟨by rw [HV.out], (Below.refl _ _).alloc (Nat.le_refl _) _⟩
set_option maxHeartbeats 400000 in
theorem value_eight {w : World} {p : Addr} {A : Option Addr} {c : Nat} {l : List Bool} (he : w.cell? ⟨0, 0, none⟩ = some (.iface 220 (.pointer (some p)))) (hl : l.length = 8)
    (hr : Reads w w.heap.size 1 A l.length (boolVals l)) :
    Calls Tryd.prog 19 #[.slice A l.length c] w (VPost w (valOf l) (.nilIface)) := by
  have HR := Lib.hid (hr.alloc (Nat.le_refl _) (.cells #[.int .i64 0, .int .i64 0] 45))
  have hlt := World.block_lt_of_cell? w _ he
  have HL : Hid (l.length ≤ 60) := by rw [hl]; exact Nat.le_of_ble_eq_true rfl
  have e1 : ((l.length : Int) == 1) = false := by rw [hl]; rfl
  have e8 : ((l.length : Int) == 8) = true := by rw [hl]; rfl
  have HV : Hid (valOf l = (2, signed (num l))) := by unfold valOf; rw [if_neg (by rw [hl]; decide), if_pos hl]; exact rfl
  have HW8 : Hid (wrap64 (IntKind.i8.wrap ((num l : Nat) : Int)) = signed (num l)) := i8_wrap _ (by have := num_lt l; rw [hl] at this; exact this)
  clear hr hl
  go_enter Tryd.func19, Tryd.ntmps19
  go_wp2_with fail
  go_loop [4, 9] (fun n i => VRel l n i) (fun _ i => l.length - (intOf i).toNat)
  case atStart => exact ⟨0, by omega, rfl, rfl⟩
  case round =>
    obtain ⟨k, hk, rfl, rfl⟩ := hrel
    by_cases hlt : k < l.length
    · obtain ⟨ad, u, rfl, _, hx, hc⟩ := HR.out.at_ hlt
      have hu : u = .bool (l[k]'hlt) := by
        have : (boolVals l)[k]? = some (.bool (l[k]'hlt)) := by simp [boolVals, List.getElem?_eq_getElem hlt]
        rw [this] at hx; exact (Option.some.inj hx).symm
      subst hu
      obtain ⟨bk, hbk⟩ : ∃ bk, bk = l[k]'hlt := ⟨_, rfl⟩
      rw [← hbk] at hc
      obtain ⟨acc, hacc⟩ : ∃ acc, acc = num (l.take k) := ⟨_, rfl⟩
      rw [← hacc]
      have hal : acc < 2 ^ k := by rw [hacc]; have := num_lt (l.take k); rwa [List.length_take, Nat.min_eq_left hk] at this
      have hsn : num (l.take (k + 1)) = acc + (if bk then 2 ^ k else 0) := by
        rw [List.take_succ_eq_append_getElem hlt, num_snoc, ← hacc, ← hbk, List.length_take, Nat.min_eq_left hk]
      have hkl := HL.out
      have HS := Lib.hid hsn
      have HW := Lib.hid (pow_wrap k (by omega))
      have HO := Lib.hid (or_pow acc k (by omega) hal)
      have hkk : (k : Int) < 60 := by omega
      clear hx hbk hacc hal hsn hkl
      cases bk
      · go_wp2
        go_round
        case rel => exact ⟨k + 1, by omega, by go_num, by rw [HS.out]; rfl⟩
        case measure => simp [intOf]; omega
      · go_wp2
        go_round
        case rel => exact ⟨k + 1, by omega, by go_num, by rw [HS.out, HW.out, HO.out]; rfl⟩
        case measure => simp [intOf]; omega
    · obtain rfl : k = l.length := by omega
      rw [List.take_length]
      go_wp2
      rw [HW8.out]
      exact bodyPost_ret (v := .tuple #[.agg #[.int .i64 2, .int .i64 (signed (num l))], .nilIface]) (by simp [results, Tryd.results19, go_sem]) rfl ⟨by rw [HV.out], (Below.refl _ _).alloc (Nat.le_refl _) _⟩
set_option maxHeartbeats 400000 in
theorem value_bad {w : World} {p : Addr} {A : Option Addr} {c : Nat} {l : List Bool} (he : w.cell? ⟨0, 0, none⟩ = some (.iface 220 (.pointer (some p)))) (hl : l.length ≤ 60) (h1 : l.length ≠ 1) (h8 : l.length ≠ 8)
    (hr : Reads w w.heap.size 1 A l.length (boolVals l)) :
    Calls Tryd.prog 19 #[.slice A l.length c] w (VPost w (valOf l) (.iface 220 (.pointer (some p)))) := by
  have HR := Lib.hid (hr.alloc (Nat.le_refl _) (.cells #[.int .i64 0, .int .i64 0] 45))
  have hlt := World.block_lt_of_cell? w _ he
  have HL := Lib.hid hl
  have e1 : ((l.length : Int) == 1) = false := by simp; omega
  have e8 : ((l.length : Int) == 8) = false := by simp; omega
  have HV : Hid (valOf l = (0, 0)) := by unfold valOf; rw [if_neg h1, if_neg h8]; exact rfl
  clear h1 h8
  clear hr hl
  go_enter Tryd.func19, Tryd.ntmps19
  go_wp2_with fail
  go_loop [4, 9] (fun n i => VRel l n i) (fun _ i => l.length - (intOf i).toNat)
  case atStart => exact ⟨0, by omega, rfl, rfl⟩
  case round =>
    obtain ⟨k, hk, rfl, rfl⟩ := hrel
    by_cases hlt : k < l.length
    · obtain ⟨ad, u, rfl, _, hx, hc⟩ := HR.out.at_ hlt
      have hu : u = .bool (l[k]'hlt) := by
        have : (boolVals l)[k]? = some (.bool (l[k]'hlt)) := by simp [boolVals, List.getElem?_eq_getElem hlt]
        rw [this] at hx; exact (Option.some.inj hx).symm
      subst hu
      obtain ⟨bk, hbk⟩ : ∃ bk, bk = l[k]'hlt := ⟨_, rfl⟩
      rw [← hbk] at hc
      obtain ⟨acc, hacc⟩ : ∃ acc, acc = num (l.take k) := ⟨_, rfl⟩
      rw [← hacc]
      have hal : acc < 2 ^ k := by rw [hacc]; have := num_lt (l.take k); rwa [List.length_take, Nat.min_eq_left hk] at this
      have hsn : num (l.take (k + 1)) = acc + (if bk then 2 ^ k else 0) := by
        rw [List.take_succ_eq_append_getElem hlt, num_snoc, ← hacc, ← hbk, List.length_take, Nat.min_eq_left hk]
      have hkl := HL.out
      have HS := Lib.hid hsn
      have HW := Lib.hid (pow_wrap k (by omega))
      have HO := Lib.hid (or_pow acc k (by omega) hal)
      have hkk : (k : Int) < 60 := by omega
      clear hx hbk hacc hal hsn hkl
      cases bk
      · go_wp2
        go_round
        case rel => exact ⟨k + 1, by omega, by go_num, by rw [HS.out]; rfl⟩
        case measure => simp [intOf]; omega
      · go_wp2
        go_round
        case rel => exact ⟨k + 1, by omega, by go_num, by rw [HS.out, HW.out, HO.out]; rfl⟩
        case measure => simp [intOf]; omega
    · obtain rfl : k = l.length := by omega
      rw [List.take_length]
      go_wp2_with fail
      go_region
      all_goals go_wp2
      all_goals exact bodyPost_ret (v := .tuple #[.agg #[.int .i64 0, .int .i64 0], .iface 220 (.pointer (some p))]) (by simp [results, Tryd.results19, go_sem]) rfl ⟨by rw [HV.out], ((Below.refl _ _).alloc (Nat.le_refl _) _).drew⟩
theorem value_any {w : World} {p : Addr} {A : Option Addr} {c : Nat} {l : List Bool} (he : w.cell? ⟨0, 0, none⟩ = some (.iface 220 (.pointer (some p)))) (hl : l.length ≤ 60)
    (hr : Reads w w.heap.size 1 A l.length (boolVals l)) :
    Calls Tryd.prog 19 #[.slice A l.length c] w (VPost w (valOf l) (if l.length = 1 ∨ l.length = 8 then .nilIface else .iface 220 (.pointer (some p)))) := by
  by_cases h1 : l.length = 1
  · rw [if_pos (.inl h1)]; exact value_one he h1 hr
  · by_cases h8 : l.length = 8
    · rw [if_pos (.inr h8)]; exact value_eight he h8 hr
    · rw [if_neg (by omega)]; exact value_bad he hl h1 h8 hr
end Go.Proofs.YtmbjhpgemphmmaaDoor
