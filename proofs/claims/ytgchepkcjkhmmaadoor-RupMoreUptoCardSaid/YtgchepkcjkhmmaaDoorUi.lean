/-
  WALKS: the comparison of (*checker).add (its closure); Sort, Compact, SortStableFunc of a nil slice.
-/
import Derived.Test.YtgchepkcjkhmmaaDoorUl
namespace Go.Proofs.YtgchepkcjkhmmaaDoor
open Go.RowKit Go.Sort
section
variable {w w' : World} {tag tag' : Nat → Tag} {p V : Nat} {y : Lay} {xs : List (List Int)} {wt : Int → List Nat} {vs tr us : List Int} {fx dd : Int}
set_option maxRecDepth 100000 in
set_option maxHeartbeats 2000000 in
theorem cmp1_any {W : World} {bx : Nat} {x z vx vz : Int} (cb : W.cell? ⟨bx, 0, none⟩ = some (.pointer (some ⟨p, 0, none⟩)))
    (hx : ∀ j, Calls Tryd.prog 36 #[.pointer (some ⟨p, 0, none⟩), .int .i64 x] (W.drewN j) fun e w' => e = .returned (.int .i8 vx) ∧ W.drewN j = w')
    (hz : ∀ j, Calls Tryd.prog 36 #[.pointer (some ⟨p, 0, none⟩), .int .i64 z] (W.drewN j) fun e w' => e = .returned (.int .i8 vz) ∧ W.drewN j = w')
    (bvx : -1 ≤ vx ∧ vx ≤ 1) (bvz : -1 ≤ vz ∧ vz ≤ 1) :
    Calls Tryd.prog 35 #[.int .i64 x, .int .i64 z, .pointer (some ⟨bx, 0, none⟩)] W fun e w' => e = .returned (.int .i64 (vz - vx)) ∧ ∃ n, w' = W.drewN n := by
  have w1 : IntKind.i64.wrap vx = vx := by rw [IntKind.wrap_i64]; omega
  have w2 : IntKind.i64.wrap vz = vz := by rw [IntKind.wrap_i64]; omega
  have w3 : IntKind.i64.wrap (vz - vx) = vz - vx := by rw [IntKind.wrap_i64]; omega
  have HX := Lib.hid hx
  have HZ := Lib.hid hz
  clear hx hz bvx bvz
  go_enter Tryd.func35, Tryd.ntmps35
  go_wp2_with fail
  go_quiet ((go_at_call 36; first | (with_reducible exact quiet_left (HX.out _)) | (with_reducible exact quiet_left (HZ.out _))))
  all_goals
    go_wp2
    go_ret
    exact ⟨rfl, _, rfl⟩
theorem cmp_ok (h : Chk w tag p V y xs wt vs tr us fx dd) (hl : vs.length = V + 1) (hok : ∀ x ∈ vs, x = -1 ∨ x = 0 ∨ x = 1) (hV : V ≤ 500000) {bx g N k : Nat} (cb : w.cell? ⟨bx, 0, none⟩ = some (.pointer (some ⟨p, 0, none⟩))) (htb : tag bx = (0, 0)) (htg : tag g = (3, (k : Int))) :
    srt.CmpOk 35 #[.pointer (some ⟨bx, 0, none⟩)] (fun n => -(lv (va vs) n)) (Lit V) w g N := by
  intro X m x z hX hx hz
  have hc : Cg tag (fun s => s = (3, (k : Int))) w (srt.rowW w g X m) := by
    rw [rowW_eq]
    have c1 : Cg tag (fun s => s = (3, (k : Int))) w (Sort.ahead w m) := cg_new (below_drewN (Below.refl _ _) m)
    have c2 : Cg tag (fun s => s = (3, (k : Int))) (Sort.ahead w m) (putRow (Value.int .i64) (Sort.ahead w m) g 0 X.toArray) := cg_put _ htg
    have c3 : Cg tag (fun s => s = (3, (k : Int))) (putRow (Value.int .i64) (Sort.ahead w m) g 0 X.toArray) (grow (putRow (Value.int .i64) (Sort.ahead w m) g 0 X.toArray) #[]) := cg_new (below_grow _ _)
    exact Chg.trans (Chg.trans c1 c2) c3
  generalize srt.rowW w g X m = W at hc ⊢
  have cb' : W.cell? ⟨bx, 0, none⟩ = some (.pointer (some ⟨p, 0, none⟩)) := by
    rw [← cb]
    refine World.cell?_of_block ?_
    cases e : w.heap[bx]? with
    | none => rw [World.cell?] at cb; simp [e] at cb
    | some o => exact hc.keep bx o e (by show ¬ tag bx = _; rw [htb]; simp)
  have key : ∀ n, Lit V n → ∀ j, Calls Tryd.prog 36 #[.pointer (some ⟨p, 0, none⟩), .int .i64 n] (W.drewN j) fun e w' => e = .returned (.int .i8 (lv (va vs) n)) ∧ W.drewN j = w' := fun n hn j => by
    obtain ⟨u, hu⟩ : ∃ u, vs[n.natAbs]? = some u := ⟨_, List.getElem?_eq_getElem (by have := hn.2; omega)⟩
    have hb := (h.blk.tchg h.tp hc (by simp)).drewN j
    have hv := ((h.val.chg hc (by simp)).chg (S := fun _ => False) (cg_new (below_drewN (Below.refl _ _) j)) id)
    have := of_raw (n := n) (hb.cell 2) (hv.cell (i8_at hu)) (hok u (List.mem_of_getElem? hu)) hn.2 (by omega)
    rw [lv_cases, show vs.getD n.natAbs 0 = u by rw [List.getD_eq_getElem?_getD, hu]; rfl]
    exact this
  have b1 := lv_ok (va_ok hok) x
  have b2 := lv_ok (va_ok hok) z
  refine (cmp1_any cb' (key x hx) (key z hz) (by omega) (by omega)).mono ?_
  rintro e w' ⟨rfl, n, hn⟩
  exact ⟨show Ending.returned (.int .i64 (lv (va vs) z - lv (va vs) x)) = .returned (.int .i64 (-(lv (va vs) x) - -(lv (va vs) z))) from by congr 2; omega, n, hn⟩
end
/-! ### nil slices -/
set_option maxRecDepth 100000 in
theorem compact_none (c : Nat) (w : World) : Calls Tryd.prog 33 #[.slice none 0 c] w fun e w' => e = .returned (.slice none 0 c) ∧ w = w' := by
  go_enter Tryd.func33, Tryd.ntmps33
  go_wp2_with fail
  go_ret
  exact ⟨rfl, rfl⟩
set_option maxRecDepth 100000 in
theorem ins2_none (c : Nat) (fv : Value) (w : World) : Calls Tryd.prog 67 #[.slice none 0 c, .int .i64 0, .int .i64 0, fv] w fun e w' => e = .returned (.tuple #[]) ∧ w = w' := by
  go_enter Tryd.func67, Tryd.ntmps67
  go_wp2_with fail
  go_loop [8] (fun iv => iv = .int .i64 1) (fun _ => 0)
  case atStart => rfl
  case round =>
    subst hrel
    go_wp2_with fail
    go_end0
    exact ⟨rfl, rfl⟩
set_option maxRecDepth 100000 in
theorem stable_none (c : Nat) (fv : Value) (w : World) : Calls Tryd.prog 52 #[.slice none 0 c, .int .i64 0, fv] w fun e w' => e = .returned (.tuple #[]) ∧ w = w' := by
  have C := Lib.hid (ins2_none c fv w)
  go_enter Tryd.func52, Tryd.ntmps52
  go_wp2_with fail
  go_loop [7, 8] (fun av bv => av = .int .i64 0 ∧ bv = .int .i64 20) (fun _ _ => 0)
  case atStart => exact ⟨rfl, rfl⟩
  case round =>
    obtain ⟨h1, h2⟩ := hrel
    subst h1
    subst h2
    go_wp2_with fail
    refine C.out.mono ?_
    rintro e w' ⟨rfl, rfl⟩
    go_wp2_with fail
    go_loop [6] (fun iv => iv = .int .i64 20) (fun _ => 0)
    case atStart => rfl
    case round =>
      subst hrel
      go_wp2_with fail
      go_end0
      exact ⟨rfl, rfl⟩
set_option maxRecDepth 100000 in
theorem sort_stable_none (c : Nat) (fv : Value) (w : World) : Calls Tryd.prog 34 #[.slice none 0 c, fv] w fun e w' => e = .returned (.tuple #[]) ∧ w = w' := by
  have C := Lib.hid (stable_none c fv w)
  go_enter Tryd.func34, Tryd.ntmps34
  go_wp2_with fail
  refine C.out.mono ?_
  rintro e w' ⟨rfl, rfl⟩
  go_wp2_with fail
  go_end0
  exact ⟨rfl, rfl⟩
end Go.Proofs.YtgchepkcjkhmmaaDoor
