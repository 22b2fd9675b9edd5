/-
  WALKS of the document's Byte, below, Decimal: a number's text.
-/
import Derived.Test.YtaedbnbeelkkcaaGreatDoorProg
import Derived.Test.YtaedbnbeelkkcaaGreatDoorBa
import Derived.Test.YtaedbnbeelkkcaaGreatDoorRp
import Derived.Lib.ItoaLen
import Derived.Laws.IdiomStrings
namespace Go.Proofs.YtaedbnbeelkkcaaGreatDoor
open Go.RowKit
set_option maxRecDepth 100000 in
theorem byte_any {w : World} {d : Nat} (h1 : 48 ≤ d) (h2 : d ≤ 57) : Calls Tryz.prog 49 #[.int .i64 (d : Nat)] w fun e w' => e = .returned (.string ⟨#[UInt8.ofNat d]⟩) ∧ Below w.heap.size w w' := by
  have hd : (UInt8.ofNat d).toNat = d := by rw [UInt8.toNat_ofNat']; omega
  have kc : (convert 45 9 (.slice (some ⟨w.heap.size, 0, none⟩) 1 1)).run Tryz.prog (w.alloc (.cells #[.int .u8 (d : Nat)] 5)) = .ok (.string ⟨#[UInt8.ofNat d]⟩) (w.alloc (.cells #[.int .u8 (d : Nat)] 5)) := run_convert_bytes_back (P := Tryz.prog) (w.alloc (.cells #[.int .u8 (d : Nat)] 5)) 45 9 5 ⟨w.heap.size, 0, none⟩ 1 [UInt8.ofNat d] Tryz.underlying45 Tryz.underlying5 Tryz.underlying9 (fun j hj => by
    match j, hj with
    | 0, _ => show World.cell? _ ⟨w.heap.size, 0, none⟩ = _; rw [(Blk.new w _ _).cell 0]; simp only [List.getElem_cons_zero, hd]; rfl)
  go_enter Tryz.func49, Tryz.ntmps49
  go_wp2_with fail
  go_ret
  exact ⟨rfl, (Below.refl _ _).alloc (Nat.le_refl _) _⟩
theorem dec_len {u : Nat} (h : u ≤ 1000000000) : (Lib.decDigits u).length ≤ 21 := by
  have h1 := Lib.itoa_length_le (u : Int) (by omega) (by omega)
  unfold Lib.itoa at h1
  rw [if_neg (by omega)] at h1
  simpa using h1
theorem ba_addD (a b : List UInt8) : (⟨a.toArray⟩ : ByteArray) ++ ⟨b.toArray⟩ = ⟨(a ++ b).toArray⟩ := by
  apply ByteArray.ext
  rw [ByteArray.data_append]
  simp
set_option maxRecDepth 100000 in
set_option maxHeartbeats 2000000 in
theorem below_any : ∀ (u : Nat), u ≤ 1000000000 → ∀ (n : Int) (w : World), n = -(u : Int) → Calls Tryz.prog 36 #[.int .i64 n] w fun e w' => e = .returned (.string ⟨(Lib.decDigits u).toArray⟩) ∧ Below w.heap.size w w' := by
  intro u
  induction u using Nat.strongRecOn with
  | _ u ih =>
    intro hu n w hn
    have hb0 : -1000000000 ≤ n ∧ n ≤ 0 := by omega
    obtain ⟨hb0, hb1⟩ := hb0
    by_cases h10 : u < 10
    · have e1 : decide (-10 < n) = true := decide_eq_true (by omega)
      obtain ⟨d, hd⟩ : ∃ d, 48 + u = d := ⟨_, rfl⟩
      have e2 : (48 : Int) - n = (d : Int) := by omega
      have C := Lib.hid (byte_any (w := w) (d := d) (by omega) (by omega))
      have HD := Lib.hid (show Lib.decDigits u = [UInt8.ofNat d] by rw [Lib.decDigits, dif_pos h10, hd])
      clear ih hn hd
      go_enter Tryz.func36, Tryz.ntmps36
      go_wp2_with fail
      refine C.out.mono ?_
      rintro e w1 ⟨rfl, hb⟩
      have HB := Lib.hid hb
      clear hb
      go_wp2_with fail
      go_ret
      exact ⟨by rw [HD.out]; rfl, HB.out⟩
    · have e1 : decide (-10 < n) = false := decide_eq_false (by omega)
      obtain ⟨q, hq⟩ : ∃ q, u / 10 = q := ⟨_, rfl⟩
      obtain ⟨r, hr⟩ : ∃ r, u % 10 = r := ⟨_, rfl⟩
      obtain ⟨n2, hn2⟩ : ∃ n2, n.tdiv 10 = n2 := ⟨_, rfl⟩
      obtain ⟨r2, hr2⟩ : ∃ r2, n.tmod 10 = r2 := ⟨_, rfl⟩
      obtain ⟨d, hd⟩ : ∃ d, 48 + r = d := ⟨_, rfl⟩
      have e2 : n2 = -(q : Int) := by rw [← hn2, hn, Int.neg_tdiv, Int.tdiv_eq_ediv_of_nonneg (by omega)]; omega
      have e3 : r2 = -(r : Int) := by rw [← hr2, hn, Int.neg_tmod, Int.tmod_eq_emod_of_nonneg (by omega)]; omega
      have e4 : (48 : Int) - r2 = (d : Int) := by omega
      have hz1 : -1000000000 ≤ n2 ∧ n2 ≤ 0 := by omega
      have hz2 : -10 ≤ r2 ∧ r2 ≤ 0 := by omega
      obtain ⟨hz10, hz11⟩ := hz1
      obtain ⟨hz20, hz21⟩ := hz2
      have HD := Lib.hid (show Lib.decDigits u = Lib.decDigits q ++ [UInt8.ofNat d] by rw [Lib.decDigits, dif_neg h10, hq, hr, hd])
      have C := Lib.hid (ih q (by omega) (by omega) n2 w e2)
      have CB := Lib.hid (fun w1 => byte_any (w := w1) (d := d) (by omega) (by omega))
      have g1 : ¬ 9223372036854775807 < (Lib.decDigits q).length + 1 := by have := dec_len (u := q) (by omega); omega
      clear ih hn hq hr hd e2 e3
      go_enter Tryz.func36, Tryz.ntmps36
      go_wp2_with fail
      refine C.out.mono ?_
      rintro e w1 ⟨rfl, hb⟩
      have HB := Lib.hid hb
      clear hb
      go_wp2_with fail
      refine (CB.out w1).mono ?_
      rintro e w2 ⟨rfl, hb2⟩
      have HB2 := Lib.hid (HB.out.trans (hb2.mono HB.out.size))
      clear hb2
      go_wp2_with fail
      go_ret
      exact ⟨by rw [HD.out, ← ba_addD]; rfl, HB2.out⟩
/-- a number's text by the document -/
def DcP (w : World) (n : Int) (e : Ending) (w' : World) : Prop := e = .returned (.string ⟨(Lib.itoa n).toArray⟩) ∧ Below w.heap.size w w'
set_option maxRecDepth 100000 in
theorem decimal_any {w : World} {n : Int} (h0 : -1000000000 ≤ n) (h1 : n ≤ 1000000000) : Calls Tryz.prog 23 #[.int .i64 n] w (DcP w n) := by
  by_cases h : n < 0
  · have e1 : decide (n < 0) = true := decide_eq_true h
    have C := Lib.hid (below_any n.natAbs (by omega) n w (by omega))
    have HI := Lib.hid (show Lib.itoa n = [45] ++ Lib.decDigits n.natAbs by unfold Lib.itoa; rw [if_pos h]; rfl)
    have g1 : ¬ 9223372036854775807 < 1 + (Lib.decDigits n.natAbs).length := by have := dec_len (u := n.natAbs) (by omega); omega
    clear h
    go_enter Tryz.func23, Tryz.ntmps23
    go_wp2_with fail
    refine C.out.mono ?_
    rintro e w1 ⟨rfl, hb⟩
    have HB := Lib.hid hb
    clear hb
    go_wp2_with fail
    go_ret
    exact ⟨by rw [HI.out, ← ba_addD]; rfl, HB.out⟩
  · have e1 : decide (n < 0) = false := decide_eq_false h
    obtain ⟨m, hm⟩ : ∃ m, -n = m := ⟨_, rfl⟩
    have C := Lib.hid (below_any n.toNat (by omega) m w (by omega))
    have HI := Lib.hid (show Lib.itoa n = Lib.decDigits n.toNat by unfold Lib.itoa; rw [if_neg h])
    clear h
    go_enter Tryz.func23, Tryz.ntmps23
    go_wp2_with fail
    refine C.out.mono ?_
    rintro e w1 ⟨rfl, hb⟩
    have HB := Lib.hid hb
    clear hb
    go_wp2_with fail
    go_ret
    exact ⟨by rw [HI.out]; rfl, HB.out⟩
end Go.Proofs.YtaedbnbeelkkcaaGreatDoor
