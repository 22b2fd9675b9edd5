/-
  WALKS of package word (chapter 10): Const, Value, Bits.
  WALKS of word.Bits, of the reference's Right and Around.
  WALKS of the reference's Right and Around, and of the law's 'five'.
-/
import Derived.Test.YtmbjhpgemphmmaaDoorCo
import Derived.Test.YtmbjhpgemphmmaaDoorLp
namespace Go.Proofs.YtmbjhpgemphmmaaDoor
open Go.RowKit

theorem infoLitW : (Tryd.prog.info? 29).map (fun i => (i.zero, i.size, i.bytes)) = some (some (.int .i64 0), 1, 8) := by kernel_rfl
theorem infoBoolW : (Tryd.prog.info? 4).map (fun i => (i.zero, i.size, i.bytes)) = some (some (.bool false), 1, 1) := by kernel_rfl
/-- the bits of n, the lowest first: so many -/
def bitsTo (n : Int) (k : Nat) : List Int := (List.range k).map fun i => n / 2 ^ i % 2
theorem and_one (x : Int) : bits BinOp.and IntKind.i64 x 1 = x % 2 := by
  show IntKind.i64.wrap ((BitVec.ofInt 64 x &&& BitVec.ofInt 64 1).toNat : Int) = _
  have h1 : (BitVec.ofInt 64 x &&& BitVec.ofInt 64 1).toNat = (BitVec.ofInt 64 x).toNat % 2 := by
    rw [BitVec.toNat_and, show (BitVec.ofInt 64 1).toNat = 1 from rfl, Nat.and_one_is_mod]
  rw [h1, BitVec.toNat_ofInt, IntKind.wrap_i64]
  omega
theorem bitsTo_succ (n : Int) (k : Nat) : bitsTo n (k + 1) = bitsTo n k ++ [n / 2 ^ k % 2] := by simp [bitsTo, List.range_succ]
/-- a loop that appends: what it has -/
def ARel (W : World) (e : TypeId) (k : Nat) (xs : List Value) (v : Value) (w : World) : Prop :=
  ∃ A c, v = .slice A k c ∧ w.ownsRow W.heap.size e 1 v k xs ∧ Below W.heap.size W w
theorem ARel.start (W : World) (e : TypeId) {w : World} (h : Below W.heap.size W w) : ARel W e 0 [] (.slice none 0 0) w :=
  ⟨none, 0, rfl, World.ownsRow_nil _ _ _ _, h⟩
theorem ARel.next {W w w1 : World} {e : TypeId} {k : Nat} {xs : List Value} {A A' : Option Addr} {c c' : Nat} {x : Value} {o : Obj} (h : ARel W e k xs (.slice A k c) w)
    (h1 : w1.ownsRow W.heap.size e 1 (.slice A' (k + 1) c') (k + 1) (xs ++ [x])) (hg : (w.alloc o).grownBy w1 (Value.slice A k c).ownBlock) : ARel W e (k + 1) (xs ++ [x]) (.slice A' (k + 1) c') w1 := by
  obtain ⟨_, _, he, ho, hb⟩ := h
  exact ⟨A', c', rfl, h1, (hb.alloc hb.size o).grown hg (by simpa using Nat.le_trans hb.size (Nat.le_succ _)) fun j hj => (ho.lt j hj).1⟩
/-- a slice of k cells that the call has made -/
def Made (W : World) (e : TypeId) (xs : List Value) (v : Value) (w : World) : Prop := ∃ A c, v = .slice A xs.length c ∧ w.ownsRow W.heap.size e 1 v xs.length xs
set_option maxHeartbeats 400000 in
theorem const_any {n : Int} (h1 : -128 ≤ n) (h2 : n ≤ 127) (w : World) :
    Calls Tryd.prog 16 #[.int .i64 n] w fun e w' => ∃ v, e = .returned (.tuple #[v, .nilIface]) ∧ ARel w 29 8 (litVals (bitsTo n 8)) v w' := by
  obtain ⟨i0, hi⟩ := info_parts infoLitW
  have HI := Lib.hid hi
  clear hi
  have e0 : decide (n < -128) = false := decide_eq_false (by omega)
  have e1 : decide (127 < n) = false := decide_eq_false (by omega)
  clear h1 h2
  go_enter Tryd.func16, Tryd.ntmps16
  go_wp2_with fail
  clear e0 e1
  go_loopw [4, 13] (fun v i wr => ∃ k : Nat, k ≤ 8 ∧ i = .int .i64 k ∧ ARel w 29 k (litVals (bitsTo n k)) v wr) (fun _ i _ => 8 - (intOf i).toNat)
  case atStart => exact ⟨0, by omega, rfl, ARel.start _ _ (Below.refl _ _)⟩
  case round =>
    obtain ⟨k, hk, rfl, hr⟩ := hrel
    obtain ⟨A, c, rfl, hown, hbl⟩ := id hr
    have HR := Lib.hid hr
    have HO := Lib.hid hown
    have HB := Lib.hid hbl
    have HB' := Lib.hid (Nat.le_trans hbl.size (Nat.le_succ wr.heap.size))
    clear hr hown hbl
    by_cases hlt : k < 8
    · go_wp2_with (at_builtin; refine wpList_append_sl _ rfl (.tmp 16) (.tmp 21) _ rfl w.heap.size 29 i0 _ 1 8 Tryd.underlying28 HI.out.1 HI.out.2.1 HI.out.2.2.1 HI.out.2.2.2 rfl (by omega) _ k _ rfl (HO.out.alloc _) (wr.heap.size + 1) (some ⟨wr.heap.size, 0, none⟩) 1 1 _ rfl (reads_new rfl (by omega) rfl) (ints_one (by simp)) (le_maxLen (by omega)) (le_bytes (by omega) (by omega)) (by have := HB'.out; simp; omega) ?_; intro A1 c1 w1 hown1 hg1)
      go_roundw
      case rel =>
        refine ⟨k + 1, by omega, by go_num, ?_⟩
        rw [and_one] at hown1 hg1
        have h := HR.out.next hown1 hg1
        rwa [bitsTo_succ, litVals, List.map_append]
      case measure => simp [intOf]; omega
    · go_wp2
      go_ret2
      obtain rfl : k = 8 := by omega
      exact ⟨_, rfl, HR.out⟩

theorem const_bad {w : World} {p : Addr} {n : Int} (he : w.cell? ⟨2, 0, none⟩ = some (.iface 220 (.pointer (some p)))) (h : n < -128 ∨ 127 < n) :
    Calls Tryd.prog 16 #[.int .i64 n] w fun e w' => e = .returned (.tuple #[.slice none 0 0, .iface 220 (.pointer (some p))]) ∧ Below w.heap.size w w' := by
  by_cases h0 : n < -128
  · have e0 : decide (n < -128) = true := decide_eq_true h0
    clear h h0
    go_enter Tryd.func16, Tryd.ntmps16
    go_wp2_with fail
    go_quiet (fail)
    go_wp2
    go_ret2
    exact ⟨rfl, below_drewN (Below.refl _ _) _⟩
  · have e0 : decide (n < -128) = false := decide_eq_false h0
    have e1 : decide (127 < n) = true := decide_eq_true (h.resolve_left h0)
    clear h h0
    go_enter Tryd.func16, Tryd.ntmps16
    go_wp2_with fail
    go_quiet (fail)
    go_wp2
    go_ret2
    exact ⟨rfl, below_drewN (Below.refl _ _) _⟩

/-- a number of bits, the lowest first -/
def num : List Bool → Nat
  | [] => 0
  | b :: r => (if b then 1 else 0) + 2 * num r
theorem num_snoc (l : List Bool) (b : Bool) : num (l ++ [b]) = num l + (if b then 2 ^ l.length else 0) := by
  induction l with
  | nil => simp [num]
  | cons x l ih => cases b <;> simp only [List.cons_append, num, ih, List.length_cons, Nat.pow_succ, if_true, Bool.false_eq_true, if_false] <;> omega
theorem num_lt (l : List Bool) : num l < 2 ^ l.length := by
  induction l with
  | nil => simp [num]
  | cons x l ih => simp only [num, List.length_cons, Nat.pow_succ]; split <;> omega
def VRel (l : List Bool) (n i : Value) : Prop := ∃ k : Nat, k ≤ l.length ∧ i = .int .i64 k ∧ n = .int .i64 (num (l.take k) : Nat)
theorem or_pow (a k : Nat) (hk : k < 62) (ha : a < 2 ^ k) : bits BinOp.or IntKind.i64 (a : Int) ((2 : Int) ^ k) = ((a + 2 ^ k : Nat) : Int) := by
  have h2 : (2 : Nat) ^ k < 2 ^ 62 := Nat.pow_lt_pow_right (by omega) hk
  have e : ((2 : Int) ^ k) = ((2 ^ k : Nat) : Int) := by simp
  rw [e, i64_or_nat a (2 ^ k) (by omega) (by omega)]
  congr 1
  have h := Nat.two_pow_add_eq_or_of_lt ha 1
  rw [Nat.mul_one] at h
  rw [Nat.or_comm, ← h, Nat.add_comm]
def signed (n : Nat) : Int := if n < 128 then n else (n : Int) - 256
theorem i8_wrap (n : Nat) (h : n < 256) : wrap64 (IntKind.i8.wrap (n : Int)) = signed n := by
  have e : IntKind.i8.wrap (n : Int) = signed n := by
    unfold signed
    have h1 : ((n : Int) % 2 ^ 8) = (n : Int) := by
      rw [show ((2 : Int) ^ 8) = 256 from rfl]; omega
    simp only [IntKind.wrap, IntKind.bits, IntKind.signed, h1, Bool.true_and, decide_eq_true_eq]
    rw [show ((2 : Int) ^ 8) = 256 from rfl, show ((2 : Int) ^ (8 - 1)) = 128 from rfl]
    by_cases hn : n < 128
    · rw [if_neg (by omega), if_pos hn]
    · rw [if_pos (by omega), if_neg hn]
  rw [e]
  unfold signed
  split <;> (unfold wrap64; omega)
/-- what Value tells -/
def valOf (l : List Bool) : Int × Int := if l.length = 1 then (1, (num l : Nat)) else if l.length = 8 then (2, signed (num l)) else (0, 0)
def VPost (w : World) (v : Int × Int) (err : Value) (e : Ending) (w' : World) : Prop := e = .returned (.tuple #[.agg #[.int .i64 v.1, .int .i64 v.2], err]) ∧ Below w.heap.size w w'
theorem pow_wrap (k : Nat) (h : k < 60) : wrap64 ((2 : Int) ^ k) = 2 ^ k := by
  have h2 : (2 : Nat) ^ k < 2 ^ 60 := Nat.pow_lt_pow_right (by omega) h
  have e : ((2 : Int) ^ k) = ((2 ^ k : Nat) : Int) := by simp
  rw [e]
  generalize 2 ^ k = m at h2
  have h3 : (2 : Nat) ^ 60 = 1152921504606846976 := rfl
  rw [h3] at h2
  unfold wrap64
  omega
set_option maxHeartbeats 400000 in
theorem value_one {w : World} {p : Addr} {A : Option Addr} {c : Nat} {l : List Bool} (he : w.cell? ⟨0, 0, none⟩ = some (.iface 220 (.pointer (some p)))) (hl : l.length = 1)
    (hr : Reads w w.heap.size 1 A l.length (boolVals l)) :
    Calls Tryd.prog 19 #[.slice A l.length c] w (VPost w (valOf l) (.nilIface)) := by
  have HR := Lib.hid (hr.alloc (Nat.le_refl _) (.cells #[.int .i64 0, .int .i64 0] 45))
  have hlt := World.block_lt_of_cell? w _ he
  have HL : Hid (l.length ≤ 60) := by rw [hl]; exact Nat.le_of_ble_eq_true rfl
  have e1 : ((l.length : Int) == 1) = true := by rw [hl]; rfl
  have HV : Hid (valOf l = (1, ((num l : Nat) : Int))) := by unfold valOf; exact if_pos hl
  clear hr hl
  go_enter Tryd.func19, Tryd.ntmps19
  go_wp2_with fail
  go_loop [4, 9] (fun n i => VRel l n i) (fun _ i => l.length - (intOf i).toNat)
  case atStart => exact ⟨0, by omega, rfl, rfl⟩
  case round =>
    obtain ⟨k, hk, rfl, rfl⟩ := hrel
    by_cases hlt : k < l.length
    · obtain ⟨ad, u, rfl, _, hx, hc⟩ := HR.out.at_ hlt
      have hu : u = .bool (l[k]'hlt) := by
        have : (boolVals l)[k]? = some (.bool (l[k]'hlt)) := by simp [boolVals, List.getElem?_eq_getElem hlt]
        rw [this] at hx; exact (Option.some.inj hx).symm
      subst hu
      obtain ⟨bk, hbk⟩ : ∃ bk, bk = l[k]'hlt := ⟨_, rfl⟩
      rw [← hbk] at hc
      obtain ⟨acc, hacc⟩ : ∃ acc, acc = num (l.take k) := ⟨_, rfl⟩
      rw [← hacc]
      have hal : acc < 2 ^ k := by rw [hacc]; have := num_lt (l.take k); rwa [List.length_take, Nat.min_eq_left hk] at this
      have hsn : num (l.take (k + 1)) = acc + (if bk then 2 ^ k else 0) := by
        rw [List.take_succ_eq_append_getElem hlt, num_snoc, ← hacc, ← hbk, List.length_take, Nat.min_eq_left hk]
      have hkl := HL.out
      have HS := Lib.hid hsn
      have HW := Lib.hid (pow_wrap k (by omega))
      have HO := Lib.hid (or_pow acc k (by omega) hal)
      have hkk : (k : Int) < 60 := by omega
      clear hx hbk hacc hal hsn hkl
      cases bk
      · go_wp2
        go_round
        case rel => exact ⟨k + 1, by omega, by go_num, by rw [HS.out]; rfl⟩
        case measure => simp [intOf]; omega
      · go_wp2
        go_round
        case rel => exact ⟨k + 1, by omega, by go_num, by rw [HS.out, HW.out, HO.out]; rfl⟩
        case measure => simp [intOf]; omega
    · obtain rfl : k = l.length := by omega
      rw [List.take_length]
      go_wp2
      exact bodyPost_ret (v := .tuple #[.agg #[.int .i64 1, .int .i64 (num l : Nat)], .nilIface]) (by simp [results, Tryd.results19, go_sem]) rfl ⟨by rw [HV.out], (Below.refl _ _).alloc (Nat.le_refl _) _⟩
set_option maxHeartbeats 400000 in
theorem value_eight {w : World} {p : Addr} {A : Option Addr} {c : Nat} {l : List Bool} (he : w.cell? ⟨0, 0, none⟩ = some (.iface 220 (.pointer (some p)))) (hl : l.length = 8)
    (hr : Reads w w.heap.size 1 A l.length (boolVals l)) :
    Calls Tryd.prog 19 #[.slice A l.length c] w (VPost w (valOf l) (.nilIface)) := by
  have HR := Lib.hid (hr.alloc (Nat.le_refl _) (.cells #[.int .i64 0, .int .i64 0] 45))
  have hlt := World.block_lt_of_cell? w _ he
  have HL : Hid (l.length ≤ 60) := by rw [hl]; exact Nat.le_of_ble_eq_true rfl
  have e1 : ((l.length : Int) == 1) = false := by rw [hl]; rfl
  have e8 : ((l.length : Int) == 8) = true := by rw [hl]; rfl
  have HV : Hid (valOf l = (2, signed (num l))) := by unfold valOf; rw [if_neg (by rw [hl]; decide), if_pos hl]; exact rfl
  have HW8 : Hid (wrap64 (IntKind.i8.wrap ((num l : Nat) : Int)) = signed (num l)) := i8_wrap _ (by have := num_lt l; rw [hl] at this; exact this)
  clear hr hl
  go_enter Tryd.func19, Tryd.ntmps19
  go_wp2_with fail
  go_loop [4, 9] (fun n i => VRel l n i) (fun _ i => l.length - (intOf i).toNat)
  case atStart => exact ⟨0, by omega, rfl, rfl⟩
  case round =>
    obtain ⟨k, hk, rfl, rfl⟩ := hrel
    by_cases hlt : k < l.length
    · obtain ⟨ad, u, rfl, _, hx, hc⟩ := HR.out.at_ hlt
      have hu : u = .bool (l[k]'hlt) := by
        have : (boolVals l)[k]? = some (.bool (l[k]'hlt)) := by simp [boolVals, List.getElem?_eq_getElem hlt]
        rw [this] at hx; exact (Option.some.inj hx).symm
      subst hu
      obtain ⟨bk, hbk⟩ : ∃ bk, bk = l[k]'hlt := ⟨_, rfl⟩
      rw [← hbk] at hc
      obtain ⟨acc, hacc⟩ : ∃ acc, acc = num (l.take k) := ⟨_, rfl⟩
      rw [← hacc]
      have hal : acc < 2 ^ k := by rw [hacc]; have := num_lt (l.take k); rwa [List.length_take, Nat.min_eq_left hk] at this
      have hsn : num (l.take (k + 1)) = acc + (if bk then 2 ^ k else 0) := by
        rw [List.take_succ_eq_append_getElem hlt, num_snoc, ← hacc, ← hbk, List.length_take, Nat.min_eq_left hk]
      have hkl := HL.out
      have HS := Lib.hid hsn
      have HW := Lib.hid (pow_wrap k (by omega))
      have HO := Lib.hid (or_pow acc k (by omega) hal)
      have hkk : (k : Int) < 60 := by omega
      clear hx hbk hacc hal hsn hkl
      cases bk
      · go_wp2
        go_round
        case rel => exact ⟨k + 1, by omega, by go_num, by rw [HS.out]; rfl⟩
        case measure => simp [intOf]; omega
      · go_wp2
        go_round
        case rel => exact ⟨k + 1, by omega, by go_num, by rw [HS.out, HW.out, HO.out]; rfl⟩
        case measure => simp [intOf]; omega
    · obtain rfl : k = l.length := by omega
      rw [List.take_length]
      go_wp2
      rw [HW8.out]
      exact bodyPost_ret (v := .tuple #[.agg #[.int .i64 2, .int .i64 (signed (num l))], .nilIface]) (by simp [results, Tryd.results19, go_sem]) rfl ⟨by rw [HV.out], (Below.refl _ _).alloc (Nat.le_refl _) _⟩
set_option maxHeartbeats 400000 in
theorem value_bad {w : World} {p : Addr} {A : Option Addr} {c : Nat} {l : List Bool} (he : w.cell? ⟨0, 0, none⟩ = some (.iface 220 (.pointer (some p)))) (hl : l.length ≤ 60) (h1 : l.length ≠ 1) (h8 : l.length ≠ 8)
    (hr : Reads w w.heap.size 1 A l.length (boolVals l)) :
    Calls Tryd.prog 19 #[.slice A l.length c] w (VPost w (valOf l) (.iface 220 (.pointer (some p)))) := by
  have HR := Lib.hid (hr.alloc (Nat.le_refl _) (.cells #[.int .i64 0, .int .i64 0] 45))
  have hlt := World.block_lt_of_cell? w _ he
  have HL := Lib.hid hl
  have e1 : ((l.length : Int) == 1) = false := by simp; omega
  have e8 : ((l.length : Int) == 8) = false := by simp; omega
  have HV : Hid (valOf l = (0, 0)) := by unfold valOf; rw [if_neg h1, if_neg h8]; exact rfl
  clear h1 h8
  clear hr hl
  go_enter Tryd.func19, Tryd.ntmps19
  go_wp2_with fail
  go_loop [4, 9] (fun n i => VRel l n i) (fun _ i => l.length - (intOf i).toNat)
  case atStart => exact ⟨0, by omega, rfl, rfl⟩
  case round =>
    obtain ⟨k, hk, rfl, rfl⟩ := hrel
    by_cases hlt : k < l.length
    · obtain ⟨ad, u, rfl, _, hx, hc⟩ := HR.out.at_ hlt
      have hu : u = .bool (l[k]'hlt) := by
        have : (boolVals l)[k]? = some (.bool (l[k]'hlt)) := by simp [boolVals, List.getElem?_eq_getElem hlt]
        rw [this] at hx; exact (Option.some.inj hx).symm
      subst hu
      obtain ⟨bk, hbk⟩ : ∃ bk, bk = l[k]'hlt := ⟨_, rfl⟩
      rw [← hbk] at hc
      obtain ⟨acc, hacc⟩ : ∃ acc, acc = num (l.take k) := ⟨_, rfl⟩
      rw [← hacc]
      have hal : acc < 2 ^ k := by rw [hacc]; have := num_lt (l.take k); rwa [List.length_take, Nat.min_eq_left hk] at this
      have hsn : num (l.take (k + 1)) = acc + (if bk then 2 ^ k else 0) := by
        rw [List.take_succ_eq_append_getElem hlt, num_snoc, ← hacc, ← hbk, List.length_take, Nat.min_eq_left hk]
      have hkl := HL.out
      have HS := Lib.hid hsn
      have HW := Lib.hid (pow_wrap k (by omega))
      have HO := Lib.hid (or_pow acc k (by omega) hal)
      have hkk : (k : Int) < 60 := by omega
      clear hx hbk hacc hal hsn hkl
      cases bk
      · go_wp2
        go_round
        case rel => exact ⟨k + 1, by omega, by go_num, by rw [HS.out]; rfl⟩
        case measure => simp [intOf]; omega
      · go_wp2
        go_round
        case rel => exact ⟨k + 1, by omega, by go_num, by rw [HS.out, HW.out, HO.out]; rfl⟩
        case measure => simp [intOf]; omega
    · obtain rfl : k = l.length := by omega
      rw [List.take_length]
      go_wp2_with fail
      go_region
      all_goals go_wp2
      all_goals exact bodyPost_ret (v := .tuple #[.agg #[.int .i64 0, .int .i64 0], .iface 220 (.pointer (some p))]) (by simp [results, Tryd.results19, go_sem]) rfl ⟨by rw [HV.out], ((Below.refl _ _).alloc (Nat.le_refl _) _).drew⟩
theorem value_any {w : World} {p : Addr} {A : Option Addr} {c : Nat} {l : List Bool} (he : w.cell? ⟨0, 0, none⟩ = some (.iface 220 (.pointer (some p)))) (hl : l.length ≤ 60)
    (hr : Reads w w.heap.size 1 A l.length (boolVals l)) :
    Calls Tryd.prog 19 #[.slice A l.length c] w (VPost w (valOf l) (if l.length = 1 ∨ l.length = 8 then .nilIface else .iface 220 (.pointer (some p)))) := by
  by_cases h1 : l.length = 1
  · rw [if_pos (.inl h1)]; exact value_one he h1 hr
  · by_cases h8 : l.length = 8
    · rw [if_pos (.inr h8)]; exact value_eight he h8 hr
    · rw [if_neg (by omega)]; exact value_bad he hl h1 h8 hr
end Go.Proofs.YtmbjhpgemphmmaaDoor
namespace Go.Proofs.YtmbjhpgemphmmaaDoor
open Go.RowKit

/-- is it a value of its kind? -/
def right (a b : Int) : Bool := (a == 1 && (b == 0 || b == 1)) || (a == 2 && (decide (-128 ≤ b) && decide (b ≤ 127)))
/-- its bits -/
def bitsOfVal (a b : Int) : List Bool := (List.range (if a = 1 then 1 else 8)).map fun i => b / 2 ^ i % 2 == 1
def bitsB (b : Int) (k : Nat) : List Bool := (List.range k).map fun i => b / 2 ^ i % 2 == 1
theorem bitsB_succ (n : Int) (k : Nat) : bitsB n (k + 1) = bitsB n k ++ [n / 2 ^ k % 2 == 1] := by simp [bitsB, List.range_succ]
theorem bitsB_len (n : Int) (k : Nat) : (bitsB n k).length = k := by simp [bitsB]
def BtPost (w : World) (n : Int) (m : Nat) (e : Ending) (w' : World) : Prop := ∃ A c, e = .returned (.tuple #[.slice A m c, .nilIface]) ∧ w'.ownsRow w.heap.size 4 1 (.slice A m c) m (boolVals (bitsB n m)) ∧ Below w.heap.size w w'
def BtRel (W : World) (n : Int) (m : Nat) (v i : Value) (w : World) : Prop := ∃ k : Nat, k ≤ m ∧ i = .int .i64 k ∧ ARel W 4 k (boolVals (bitsB n k)) v w
theorem BtRel.next {W w w1 : World} {n : Int} {m k : Nat} {A A' : Option Addr} {c c' : Nat} {o : Obj} (hk : k < m) (h : ARel W 4 k (boolVals (bitsB n k)) (.slice A k c) w)
    (h1 : w1.ownsRow W.heap.size 4 1 (.slice A' (k + 1) c') (k + 1) (boolVals (bitsB n k) ++ [.bool (n / 2 ^ k % 2 == 1)])) (hg : (w.alloc o).grownBy w1 (Value.slice A k c).ownBlock) : BtRel W n m (.slice A' (k + 1) c') (.int .i64 ((k : Int) + 1)) w1 := by
  refine ⟨k + 1, by omega, by simp, ?_⟩
  have h2 := h.next h1 hg
  rwa [bitsB_succ, boolVals, List.map_append]
theorem bools_one (x : Bool) : ∀ u ∈ [Value.bool x], u.oneCell' = true := fun u hu => by
  rw [List.mem_singleton] at hu; subst hu; rfl
set_option maxHeartbeats 400000 in
theorem bits_zero {w : World} {n : Int} (hn : n = 0) :
    Calls Tryd.prog 23 #[.agg #[.int .i64 1, .int .i64 n]] w (BtPost w n 1) := by
  obtain ⟨i0, hi⟩ := info_parts infoBoolW
  have HI := Lib.hid hi
  clear hi
  have hand := and_one
  have e1 : (n == 0) = true := by rw [hn]; rfl
  clear hn
  go_enter Tryd.func23, Tryd.ntmps23
  go_wp2_with fail
  obtain ⟨W, hW⟩ : ∃ W, W = w.alloc (.cells #[.int .i64 1, .int .i64 n] 45) := ⟨_, rfl⟩
  rw [← hW]
  have hbox : W.cell? ⟨w.heap.size, 1, none⟩ = some (.int .i64 n) := by rw [hW, (Blk.new w _ _).cell 1]; rfl
  have hWs : W.heap.size = w.heap.size + 1 := by rw [hW]; simp
  have HW : Hid (Below w.heap.size w W) := by rw [hW]; exact (Below.refl _ _).alloc (Nat.le_refl _) _
  have HX := Lib.hid hbox
  have HS := Lib.hid hWs
  clear hbox hW hWs 
  go_loopw [5, 37] (fun v i wr => BtRel W n 1 v i wr) (fun _ i _ => 1 - (intOf i).toNat)
  case atStart => exact ⟨0, by omega, rfl, ARel.start _ _ (Below.refl _ _)⟩
  case round =>
    obtain ⟨k, hk, rfl, hr⟩ := hrel
    obtain ⟨A, c, rfl, hown, hbl⟩ := id hr
    have HR := Lib.hid hr
    have HO := Lib.hid hown
    have HB := Lib.hid hbl
    have hc : wr.cell? ⟨w.heap.size, 1, none⟩ = some (.int .i64 n) := by rw [hbl.cell (by have := HS.out; simp; omega)]; exact HX.out
    have HB' := Lib.hid (Nat.le_trans hbl.size (Nat.le_succ wr.heap.size))
    clear hr hown hbl
    by_cases hlt : k < 1
    · go_wp2_with (at_builtin; refine wpList_append_sl _ rfl (.tmp 40) (.tmp 47) _ rfl W.heap.size 4 i0 _ 1 1 Tryd.underlying54 HI.out.1 HI.out.2.1 HI.out.2.2.1 HI.out.2.2.2 rfl (by omega) _ k _ rfl (HO.out.alloc _) (wr.heap.size + 1) (some ⟨wr.heap.size, 0, none⟩) 1 1 _ rfl (reads_new rfl (by omega) rfl) (bools_one _) (le_maxLen (by omega)) (le_bytes (by omega) (by omega)) (by have := HB'.out; simp; omega) ?_; intro A1 c1 w1 hown1 hg1)
      go_roundw
      case rel => exact BtRel.next hlt HR.out hown1 hg1
      case measure => simp [intOf]; omega
    · obtain rfl : k = 1 := by omega
      go_wp2
      go_ret2
      have hs := HS.out
      exact ⟨_, _, rfl, own_base HO.out (by omega), HW.out.trans (HB.out.mono (by omega))⟩
set_option maxHeartbeats 400000 in
theorem bits_one {w : World} {n : Int} (hn : n = 1) :
    Calls Tryd.prog 23 #[.agg #[.int .i64 1, .int .i64 n]] w (BtPost w n 1) := by
  obtain ⟨i0, hi⟩ := info_parts infoBoolW
  have HI := Lib.hid hi
  clear hi
  have hand := and_one
  have e1 : (n == 0) = false := by rw [hn]; rfl
  have e2 : (n == 1) = true := by rw [hn]; rfl
  clear hn
  go_enter Tryd.func23, Tryd.ntmps23
  go_wp2_with fail
  obtain ⟨W, hW⟩ : ∃ W, W = w.alloc (.cells #[.int .i64 1, .int .i64 n] 45) := ⟨_, rfl⟩
  rw [← hW]
  have hbox : W.cell? ⟨w.heap.size, 1, none⟩ = some (.int .i64 n) := by rw [hW, (Blk.new w _ _).cell 1]; rfl
  have hWs : W.heap.size = w.heap.size + 1 := by rw [hW]; simp
  have HW : Hid (Below w.heap.size w W) := by rw [hW]; exact (Below.refl _ _).alloc (Nat.le_refl _) _
  have HX := Lib.hid hbox
  have HS := Lib.hid hWs
  clear hbox hW hWs 
  go_loopw [5, 37] (fun v i wr => BtRel W n 1 v i wr) (fun _ i _ => 1 - (intOf i).toNat)
  case atStart => exact ⟨0, by omega, rfl, ARel.start _ _ (Below.refl _ _)⟩
  case round =>
    obtain ⟨k, hk, rfl, hr⟩ := hrel
    obtain ⟨A, c, rfl, hown, hbl⟩ := id hr
    have HR := Lib.hid hr
    have HO := Lib.hid hown
    have HB := Lib.hid hbl
    have hc : wr.cell? ⟨w.heap.size, 1, none⟩ = some (.int .i64 n) := by rw [hbl.cell (by have := HS.out; simp; omega)]; exact HX.out
    have HB' := Lib.hid (Nat.le_trans hbl.size (Nat.le_succ wr.heap.size))
    clear hr hown hbl
    by_cases hlt : k < 1
    · go_wp2_with (at_builtin; refine wpList_append_sl _ rfl (.tmp 40) (.tmp 47) _ rfl W.heap.size 4 i0 _ 1 1 Tryd.underlying54 HI.out.1 HI.out.2.1 HI.out.2.2.1 HI.out.2.2.2 rfl (by omega) _ k _ rfl (HO.out.alloc _) (wr.heap.size + 1) (some ⟨wr.heap.size, 0, none⟩) 1 1 _ rfl (reads_new rfl (by omega) rfl) (bools_one _) (le_maxLen (by omega)) (le_bytes (by omega) (by omega)) (by have := HB'.out; simp; omega) ?_; intro A1 c1 w1 hown1 hg1)
      go_roundw
      case rel => exact BtRel.next hlt HR.out hown1 hg1
      case measure => simp [intOf]; omega
    · obtain rfl : k = 1 := by omega
      go_wp2
      go_ret2
      have hs := HS.out
      exact ⟨_, _, rfl, own_base HO.out (by omega), HW.out.trans (HB.out.mono (by omega))⟩
set_option maxHeartbeats 400000 in
theorem bits_int {w : World} {n : Int} (h1 : -128 ≤ n) (h2 : n ≤ 127) :
    Calls Tryd.prog 23 #[.agg #[.int .i64 2, .int .i64 n]] w (BtPost w n 8) := by
  obtain ⟨i0, hi⟩ := info_parts infoBoolW
  have HI := Lib.hid hi
  clear hi
  have hand := and_one
  have e1 : decide (-128 ≤ n) = true := decide_eq_true h1
  have e2 : decide (n ≤ 127) = true := decide_eq_true h2
  clear h1 h2
  go_enter Tryd.func23, Tryd.ntmps23
  go_wp2_with fail
  obtain ⟨W, hW⟩ : ∃ W, W = w.alloc (.cells #[.int .i64 2, .int .i64 n] 45) := ⟨_, rfl⟩
  rw [← hW]
  have hbox : W.cell? ⟨w.heap.size, 1, none⟩ = some (.int .i64 n) := by rw [hW, (Blk.new w _ _).cell 1]; rfl
  have hWs : W.heap.size = w.heap.size + 1 := by rw [hW]; simp
  have HW : Hid (Below w.heap.size w W) := by rw [hW]; exact (Below.refl _ _).alloc (Nat.le_refl _) _
  have HX := Lib.hid hbox
  have HS := Lib.hid hWs
  clear hbox hW hWs e1 e2
  go_loopw [5, 37] (fun v i wr => BtRel W n 8 v i wr) (fun _ i _ => 8 - (intOf i).toNat)
  case atStart => exact ⟨0, by omega, rfl, ARel.start _ _ (Below.refl _ _)⟩
  case round =>
    obtain ⟨k, hk, rfl, hr⟩ := hrel
    obtain ⟨A, c, rfl, hown, hbl⟩ := id hr
    have HR := Lib.hid hr
    have HO := Lib.hid hown
    have HB := Lib.hid hbl
    have hc : wr.cell? ⟨w.heap.size, 1, none⟩ = some (.int .i64 n) := by rw [hbl.cell (by have := HS.out; simp; omega)]; exact HX.out
    have HB' := Lib.hid (Nat.le_trans hbl.size (Nat.le_succ wr.heap.size))
    clear hr hown hbl
    by_cases hlt : k < 8
    · go_wp2_with (at_builtin; refine wpList_append_sl _ rfl (.tmp 40) (.tmp 47) _ rfl W.heap.size 4 i0 _ 1 1 Tryd.underlying54 HI.out.1 HI.out.2.1 HI.out.2.2.1 HI.out.2.2.2 rfl (by omega) _ k _ rfl (HO.out.alloc _) (wr.heap.size + 1) (some ⟨wr.heap.size, 0, none⟩) 1 1 _ rfl (reads_new rfl (by omega) rfl) (bools_one _) (le_maxLen (by omega)) (le_bytes (by omega) (by omega)) (by have := HB'.out; simp; omega) ?_; intro A1 c1 w1 hown1 hg1)
      go_roundw
      case rel => exact BtRel.next hlt HR.out hown1 hg1
      case measure => simp [intOf]; omega
    · obtain rfl : k = 8 := by omega
      go_wp2
      go_ret2
      have hs := HS.out
      exact ⟨_, _, rfl, own_base HO.out (by omega), HW.out.trans (HB.out.mono (by omega))⟩
theorem bits_badK {w : World} {p : Addr} {a n : Int} (he : w.cell? ⟨1, 0, none⟩ = some (.iface 220 (.pointer (some p)))) (h1 : a ≠ 1) (h2 : a ≠ 2) :
    Calls Tryd.prog 23 #[.agg #[.int .i64 a, .int .i64 n]] w fun e w' => e = .returned (.tuple #[.slice none 0 0, .iface 220 (.pointer (some p))]) ∧ Below w.heap.size w w' := by
  have hlt := World.block_lt_of_cell? w _ he
  have he' : (w.alloc (.cells #[.int .i64 a, .int .i64 n] 45)).cell? ⟨1, 0, none⟩ = some (.iface 220 (.pointer (some p))) := by rw [World.cell?_alloc_lt _ _ ⟨_, 0, none⟩ hlt]; exact he
  have e1 : (a == 1) = false := by simpa using h1
  have e2 : (a == 2) = false := by simpa using h2
  clear h1 h2
  go_enter Tryd.func23, Tryd.ntmps23
  go_wp2_with fail
  go_quiet (fail)
  go_wp2
  go_ret2
  exact ⟨rfl, below_drewN ((Below.refl _ _).alloc (Nat.le_refl _) _) _⟩
theorem bits_badB {w : World} {p : Addr} {a n : Int} (he : w.cell? ⟨1, 0, none⟩ = some (.iface 220 (.pointer (some p)))) (ha : a = 1) (h1 : n ≠ 0) (h2 : n ≠ 1) :
    Calls Tryd.prog 23 #[.agg #[.int .i64 a, .int .i64 n]] w fun e w' => e = .returned (.tuple #[.slice none 0 0, .iface 220 (.pointer (some p))]) ∧ Below w.heap.size w w' := by
  have hlt := World.block_lt_of_cell? w _ he
  have he' : (w.alloc (.cells #[.int .i64 a, .int .i64 n] 45)).cell? ⟨1, 0, none⟩ = some (.iface 220 (.pointer (some p))) := by rw [World.cell?_alloc_lt _ _ ⟨_, 0, none⟩ hlt]; exact he
  have e1 : (a == 1) = true := by simpa using ha
  have e2 : (a == 2) = false := by rw [ha]; rfl
  have e3 : (n == 0) = false := by simpa using h1
  have e4 : (n == 1) = false := by simpa using h2
  clear h1 h2 ha
  go_enter Tryd.func23, Tryd.ntmps23
  go_wp2_with fail
  go_quiet (fail)
  go_wp2
  go_ret2
  exact ⟨rfl, below_drewN ((Below.refl _ _).alloc (Nat.le_refl _) _) _⟩
theorem bits_badL {w : World} {p : Addr} {a n : Int} (he : w.cell? ⟨1, 0, none⟩ = some (.iface 220 (.pointer (some p)))) (ha : a = 2) (h1 : n < -128) :
    Calls Tryd.prog 23 #[.agg #[.int .i64 a, .int .i64 n]] w fun e w' => e = .returned (.tuple #[.slice none 0 0, .iface 220 (.pointer (some p))]) ∧ Below w.heap.size w w' := by
  have hlt := World.block_lt_of_cell? w _ he
  have he' : (w.alloc (.cells #[.int .i64 a, .int .i64 n] 45)).cell? ⟨1, 0, none⟩ = some (.iface 220 (.pointer (some p))) := by rw [World.cell?_alloc_lt _ _ ⟨_, 0, none⟩ hlt]; exact he
  have e1 : (a == 1) = false := by rw [ha]; rfl
  have e2 : (a == 2) = true := by simpa using ha
  have e3 : decide (-128 ≤ n) = false := decide_eq_false (by omega)
  clear h1 ha
  go_enter Tryd.func23, Tryd.ntmps23
  go_wp2_with fail
  go_quiet (fail)
  go_wp2
  go_ret2
  exact ⟨rfl, below_drewN ((Below.refl _ _).alloc (Nat.le_refl _) _) _⟩
theorem bits_badH {w : World} {p : Addr} {a n : Int} (he : w.cell? ⟨1, 0, none⟩ = some (.iface 220 (.pointer (some p)))) (ha : a = 2) (h1 : 127 < n) :
    Calls Tryd.prog 23 #[.agg #[.int .i64 a, .int .i64 n]] w fun e w' => e = .returned (.tuple #[.slice none 0 0, .iface 220 (.pointer (some p))]) ∧ Below w.heap.size w w' := by
  have hlt := World.block_lt_of_cell? w _ he
  have he' : (w.alloc (.cells #[.int .i64 a, .int .i64 n] 45)).cell? ⟨1, 0, none⟩ = some (.iface 220 (.pointer (some p))) := by rw [World.cell?_alloc_lt _ _ ⟨_, 0, none⟩ hlt]; exact he
  have e1 : (a == 1) = false := by rw [ha]; rfl
  have e2 : (a == 2) = true := by simpa using ha
  have e3 : decide (-128 ≤ n) = true := decide_eq_true (by omega)
  have e4 : decide (n ≤ 127) = false := decide_eq_false (by omega)
  clear h1 ha
  go_enter Tryd.func23, Tryd.ntmps23
  go_wp2_with fail
  go_quiet (fail)
  go_wp2
  go_ret2
  exact ⟨rfl, below_drewN ((Below.refl _ _).alloc (Nat.le_refl _) _) _⟩
end Go.Proofs.YtmbjhpgemphmmaaDoor
namespace Go.Proofs.YtmbjhpgemphmmaaDoor
open Go.RowKit

def RPost (w : World) (x : Bool) (e : Ending) (w' : World) : Prop := e = .returned (.bool x) ∧ Below w.heap.size w w'
theorem right_b0 {w : World} {a b : Int} (h1 : a = 1) (h2 : b = 0) :
    Calls Tryd.prog 22 #[.agg #[.int .i64 a, .int .i64 b], .int .i64 a] w (RPost w (right a b)) := by
  have HR : Hid (right a b = true) := by
    have : right a b = true := by subst h1 h2; rfl
    exact this
  have e0 : (a != a) = false := by simp
  have e1 : (a == 1) = true := by simp [h1]
  have e3 : (b == 0) = true := by simp [h2]
  clear h1 h2
  go_enter Tryd.func22, Tryd.ntmps22
  go_wp2
  all_goals go_ret
  all_goals exact ⟨by rw [HR.out]; rfl, (Below.refl _ _).alloc (Nat.le_refl _) _⟩
theorem right_b1 {w : World} {a b : Int} (h1 : a = 1) (h2 : b = 1) :
    Calls Tryd.prog 22 #[.agg #[.int .i64 a, .int .i64 b], .int .i64 a] w (RPost w (right a b)) := by
  have HR : Hid (right a b = true) := by
    have : right a b = true := by subst h1 h2; rfl
    exact this
  have e0 : (a != a) = false := by simp
  have e1 : (a == 1) = true := by simp [h1]
  have e3 : (b == 0) = false := by simp [h2]
  have e4 : (b == 1) = true := by simp [h2]
  clear h1 h2
  go_enter Tryd.func22, Tryd.ntmps22
  go_wp2
  all_goals go_ret
  all_goals exact ⟨by rw [HR.out]; rfl, (Below.refl _ _).alloc (Nat.le_refl _) _⟩
theorem right_bx {w : World} {a b : Int} (h1 : a = 1) (h2 : b ≠ 0) (h3 : b ≠ 1) :
    Calls Tryd.prog 22 #[.agg #[.int .i64 a, .int .i64 b], .int .i64 a] w (RPost w (right a b)) := by
  have HR : Hid (right a b = false) := by
    have : right a b = false := by subst h1; unfold right; simp [h2, h3]
    exact this
  have e0 : (a != a) = false := by simp
  have e1 : (a == 1) = true := by simp [h1]
  have e3 : (b == 0) = false := by simpa using h2
  have e4 : (b == 1) = false := by simpa using h3
  clear h1 h2 h3
  go_enter Tryd.func22, Tryd.ntmps22
  go_wp2
  all_goals go_ret
  all_goals exact ⟨by rw [HR.out]; rfl, (Below.refl _ _).alloc (Nat.le_refl _) _⟩
theorem right_il {w : World} {a b : Int} (h1 : a = 2) (h2 : b < -128) :
    Calls Tryd.prog 22 #[.agg #[.int .i64 a, .int .i64 b], .int .i64 a] w (RPost w (right a b)) := by
  have HR : Hid (right a b = false) := by
    have : right a b = false := by subst h1; unfold right; simp; omega
    exact this
  have e0 : (a != a) = false := by simp
  have e1 : (a == 1) = false := by simp [h1]
  have e2 : (a == 2) = true := by simp [h1]
  have e3 : decide (-129 < b) = false := decide_eq_false (by omega)
  clear h1 h2
  go_enter Tryd.func22, Tryd.ntmps22
  go_wp2
  all_goals go_ret
  all_goals exact ⟨by rw [HR.out]; rfl, (Below.refl _ _).alloc (Nat.le_refl _) _⟩
theorem right_ih {w : World} {a b : Int} (h1 : a = 2) (h2 : 127 < b) :
    Calls Tryd.prog 22 #[.agg #[.int .i64 a, .int .i64 b], .int .i64 a] w (RPost w (right a b)) := by
  have HR : Hid (right a b = false) := by
    have : right a b = false := by subst h1; unfold right; simp; omega
    exact this
  have e0 : (a != a) = false := by simp
  have e1 : (a == 1) = false := by simp [h1]
  have e2 : (a == 2) = true := by simp [h1]
  have e3 : decide (-129 < b) = true := decide_eq_true (by omega)
  have e4 : decide (b < 128) = false := decide_eq_false (by omega)
  clear h1 h2
  go_enter Tryd.func22, Tryd.ntmps22
  go_wp2
  all_goals go_ret
  all_goals exact ⟨by rw [HR.out]; rfl, (Below.refl _ _).alloc (Nat.le_refl _) _⟩
theorem right_ii {w : World} {a b : Int} (h1 : a = 2) (h2 : -128 ≤ b) (h3 : b ≤ 127) :
    Calls Tryd.prog 22 #[.agg #[.int .i64 a, .int .i64 b], .int .i64 a] w (RPost w (right a b)) := by
  have HR : Hid (right a b = true) := by
    have : right a b = true := by subst h1; unfold right; simp; omega
    exact this
  have e0 : (a != a) = false := by simp
  have e1 : (a == 1) = false := by simp [h1]
  have e2 : (a == 2) = true := by simp [h1]
  have e3 : decide (-129 < b) = true := decide_eq_true (by omega)
  have e4 : decide (b < 128) = true := decide_eq_true (by omega)
  clear h1 h2 h3
  go_enter Tryd.func22, Tryd.ntmps22
  go_wp2
  all_goals go_ret
  all_goals exact ⟨by rw [HR.out]; rfl, (Below.refl _ _).alloc (Nat.le_refl _) _⟩
theorem right_x {w : World} {a b : Int} (h1 : a ≠ 1) (h2 : a ≠ 2) :
    Calls Tryd.prog 22 #[.agg #[.int .i64 a, .int .i64 b], .int .i64 a] w (RPost w (right a b)) := by
  have HR : Hid (right a b = false) := by
    have : right a b = false := by unfold right; simp [h1, h2]
    exact this
  have e0 : (a != a) = false := by simp
  have e1 : (a == 1) = false := by simpa using h1
  have e2 : (a == 2) = false := by simpa using h2
  clear h1 h2
  go_enter Tryd.func22, Tryd.ntmps22
  go_wp2
  all_goals go_ret
  all_goals exact ⟨by rw [HR.out]; rfl, (Below.refl _ _).alloc (Nat.le_refl _) _⟩
theorem right_any (w : World) (a b : Int) : Calls Tryd.prog 22 #[.agg #[.int .i64 a, .int .i64 b], .int .i64 a] w (RPost w (right a b)) := by
  by_cases h1 : a = 1
  · by_cases h2 : b = 0
    · exact right_b0 h1 h2
    · by_cases h3 : b = 1
      · exact right_b1 h1 h3
      · exact right_bx h1 h2 h3
  · by_cases h2 : a = 2
    · by_cases h3 : b < -128
      · exact right_il h2 h3
      · by_cases h4 : 127 < b
        · exact right_ih h2 h4
        · exact right_ii h2 (by omega) (by omega)
    · exact right_x h1 h2
theorem around_in {w : World} {n : Int} (h1 : -128 ≤ n) (h2 : n ≤ 127) : Calls Tryd.prog 54 #[.int .i64 n] w fun e w' => e = .returned (.int .i64 n) ∧ w = w' := by
  by_cases h0 : 0 ≤ n
  · have e2 : decide (n < 0) = false := decide_eq_false (by omega)
    have e3 : decide (127 < n) = false := decide_eq_false (by omega)
    have e1 : n % 256 = n := by omega
    go_enter Tryd.func54, Tryd.ntmps54
    go_wp2
    go_ret
    exact ⟨congrArg (fun x => Ending.returned (Value.int .i64 x)) e1, rfl⟩
  · have e1 : n.tmod 256 = n := by rw [Int.tmod_eq_emod]; split <;> simp <;> omega
    have e2 : decide (n < 0) = true := decide_eq_true (by omega)
    have e3 : decide (127 < n + 256) = true := decide_eq_true (by omega)
    go_enter Tryd.func54, Tryd.ntmps54
    go_wp2
    go_ret
    exact ⟨rfl, rfl⟩
theorem bitsTo_5 : litVals (bitsTo 5 8) = [.int .i64 1, .int .i64 0, .int .i64 1, .int .i64 0, .int .i64 0, .int .i64 0, .int .i64 0, .int .i64 0] := rfl
theorem arel_cells {W w : World} {e : TypeId} {k : Nat} {xs : List Value} {A : Option Addr} {c : Nat} (h : ARel W e k xs (.slice A k c) w) (hk : 0 < k) :
    ∃ g, A = some ⟨g, 0, none⟩ ∧ W.heap.size ≤ g ∧ (∀ (j : Nat) (u : Value), xs[j]? = some u → w.cell? ⟨g, j, none⟩ = some u) := by
  obtain ⟨A', c', he, ho, _⟩ := h
  simp only [Value.slice.injEq, true_and] at he
  obtain ⟨rfl, rfl⟩ := he
  obtain ⟨g, cap, hv, hb, _⟩ := ho.form hk
  simp only [Value.slice.injEq] at hv
  obtain ⟨rfl, _, rfl⟩ := hv
  refine ⟨g, rfl, hb, fun j u hu => ?_⟩
  have := ho.cells (g := g) rfl j u hu
  rwa [show ((⟨g, 0, none⟩ : Addr).add j) = ⟨g, j, none⟩ from by unfold Addr.add; split <;> simp_all] at this
theorem five_any (w : World) : Calls Tryd.prog 14 #[] w (RPost w true) := by
  have C := Lib.hid (const_any (n := 5) (by omega) (by omega) w)
  go_enter Tryd.func14, Tryd.ntmps14
  go_wp2_with fail
  refine C.out.mono ?_
  rintro e w1 ⟨v, rfl, hr⟩
  obtain ⟨A, c, rfl, _, hb⟩ := id hr
  rw [bitsTo_5] at hr
  obtain ⟨g, rfl, hg, hc⟩ := arel_cells hr (by omega)
  have c0 := hc 0 _ rfl
  have c1 := hc 1 _ rfl
  have c2 := hc 2 _ rfl
  have HB := Lib.hid hb
  clear hr hc hb
  go_wp2
  go_ret
  exact ⟨rfl, HB.out⟩
end Go.Proofs.YtmbjhpgemphmmaaDoor
