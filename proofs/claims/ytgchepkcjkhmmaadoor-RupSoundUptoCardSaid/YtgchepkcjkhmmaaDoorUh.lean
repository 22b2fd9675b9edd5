/-
  slices.Sort at api.Clause: the kit's walk of pdqsortOrdered[int] handed through.
-/
import Derived.Test.YtgchepkcjkhmmaaDoorSh
import Derived.Shelf.Sort.Plain
import Derived.WalkKit
import Derived.Lib.Hide
import Derived.Test.YtgchepkcjkhmmaaDoorProg
import Derived.Deep.DeepCutAuto
namespace Go.Proofs.YtgchepkcjkhmmaaDoor
open Go.RowKit Go.Lib Go.Sort
theorem pdq_int (blk off cap : Nat) (zs : List Int) (w : World) (hH : Holds (Value.int .i64) w blk off zs.toArray) (hblk : blk < w.heap.size) (hsz : zs.length < 4611686018427387904) :
    Calls Tryd.prog 50 #[.slice (some ⟨blk, off, none⟩) zs.length cap, .int .i64 (0 : Nat), .int .i64 (zs.length : Nat), .int .i64 (bitsLen zs.length : Nat)] w fun e w' =>
      e = .returned (.tuple #[]) ∧ ∃ n os, w' = grow (putRow (Value.int .i64) (Sort.ahead w n) blk off (zs.mergeSort fun x y => decide (x ≤ y)).toArray) os := by
  have hk : bitsLen zs.length ≤ 62 := (bitsLen_le_iff zs.length 62).2 (by omega)
  have hdp := pdqDepth_le_59 ltInt zs.toArray 0 zs.length (bitsLen zs.length) true true (by omega)
  have h := calls_of_every_depth fun D => Any.pdqWalkInInt Tryd.lays257 D 65 blk off cap 0 zs.length (bitsLen zs.length) zs.toArray w (by omega) hH hblk (Nat.zero_le _) (by simp) (by simpa using hsz) (by omega) (Or.inl rfl)
  have e : Sort.pdq ltInt zs.toArray 0 zs.length (bitsLen zs.length) true true = (zs.mergeSort fun x y => decide (x ≤ y)).toArray := by
    rw [← Any.sort_int_eqD]
    unfold Sort.sort
    simp
  rw [e] at h
  refine (?_ : Calls Tryd.prog (Tryd.lays257_ren.f 257) _ w _)
  simpa using h
set_option maxRecDepth 100000 in
theorem ins_none (c : Nat) (w : World) : Calls Tryd.prog 56 #[.slice none 0 c, .int .i64 0, .int .i64 0] w fun e w' => e = .returned (.tuple #[]) ∧ w = w' := by
  go_enter Tryd.func56, Tryd.ntmps56
  go_wp2_with fail
  go_loop [6] (fun iv => iv = .int .i64 1) (fun _ => 0)
  case atStart => rfl
  case round =>
    subst hrel
    go_wp2_with fail
    go_end0
    exact ⟨rfl, rfl⟩
set_option maxRecDepth 100000 in
theorem pdq_none (c : Nat) (w : World) : Calls Tryd.prog 50 #[.slice none 0 c, .int .i64 0, .int .i64 0, .int .i64 0] w fun e w' => e = .returned (.tuple #[]) ∧ w = w' := by
  have C := Lib.hid (ins_none c w)
  go_enter Tryd.func50, Tryd.ntmps50
  go_wp2_with fail
  go_loop [1, 2] (fun av bv => av = .int .i64 0 ∧ bv = .int .i64 0) (fun _ _ => 0)
  case atStart => exact ⟨rfl, rfl⟩
  case round =>
    obtain ⟨h1, h2⟩ := hrel
    subst h1
    subst h2
    go_wp2_with fail
    refine C.out.mono ?_
    rintro e w' ⟨rfl, rfl⟩
    go_wp2_with fail
    exact bodyPost_ret (v := .tuple #[]) (results_none rfl _ _ _) rfl ⟨rfl, rfl⟩
set_option maxRecDepth 100000 in
theorem sort_none (c : Nat) (w : World) : Calls Tryd.prog 32 #[.slice none 0 c] w fun e w' => e = .returned (.tuple #[]) ∧ w = w' := by
  have C := Lib.hid (pdq_none c w)
  have C2 := Lib.hid (Tryd.bits_Len 0 w (by decide) (by decide))
  go_enter Tryd.func32, Tryd.ntmps32
  go_wp2_with fail
  refine C2.out.mono ?_
  rintro e w' ⟨rfl, rfl⟩
  go_wp2_with fail
  refine C.out.mono ?_
  rintro e w' ⟨rfl, rfl⟩
  go_wp2_with fail
  go_end0
  exact ⟨rfl, rfl⟩
set_option maxRecDepth 100000 in
theorem sort_clause (blk off cap : Nat) (zs : List Int) (w : World) (hH : Holds (Value.int .i64) w blk off zs.toArray) (hblk : blk < w.heap.size) (hsz : zs.length ≤ 1000000) :
    Calls Tryd.prog 32 #[.slice (some ⟨blk, off, none⟩) zs.length cap] w fun e w' =>
      e = .returned (.tuple #[]) ∧ ∃ n os, w' = grow (putRow (Value.int .i64) (Sort.ahead w n) blk off (zs.mergeSort fun x y => decide (x ≤ y)).toArray) os := by
  obtain ⟨n, hn⟩ : ∃ n, zs.length = n := ⟨_, rfl⟩
  have C := pdq_int blk off cap zs w hH hblk (by omega)
  have C2 := Tryd.bits_Len (n : Int) w (by omega) (by omega)
  have eb : ((n : Int)).toNat = n := by omega
  rw [eb, bitLen_eq n (by omega)] at C2
  rw [hn] at C hsz ⊢
  have C := Lib.hid C
  have C2 := Lib.hid C2
  have wn : IntKind.u64.wrap (n : Int) = (n : Int) := by rw [IntKind.wrap_u64]; omega
  clear hH hn eb
  go_enter Tryd.func32, Tryd.ntmps32
  go_wp2_with fail
  refine C2.out.mono ?_
  rintro e w' ⟨rfl, rfl⟩
  go_wp2_with fail
  refine C.out.mono ?_
  rintro e w' ⟨rfl, h⟩
  have H := Lib.hid h
  clear h
  go_wp2_with fail
  go_end0
  exact ⟨rfl, H.out⟩
end Go.Proofs.YtgchepkcjkhmmaaDoor
