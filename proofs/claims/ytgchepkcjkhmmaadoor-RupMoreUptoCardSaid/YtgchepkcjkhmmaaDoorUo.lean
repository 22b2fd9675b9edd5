/-
  WALK of (*checker).add: a nil clause; whatever clause.
-/
import Derived.Test.YtgchepkcjkhmmaaDoorUj
namespace Go.Proofs.YtgchepkcjkhmmaaDoor
open Go.RowKit Go.Sort
section
variable {w w' : World} {tag tag' : Nat → Tag} {p V : Nat} {y : Lay} {L : List (List Int)} {s : St} {us : List Int} {fx dd : Int} {l : List Int}
set_option maxRecDepth 100000 in
set_option maxHeartbeats 4000000 in
theorem add_none (h : Chk w tag p V y s.xs s.wt s.vs s.tr us fx dd) (hi : CkI V L s fx dd) (_hV : V ≤ 150000) (hL : L.length ≤ 900000) :
    Calls Tryd.prog 18 #[.pointer (some ⟨p, 0, none⟩), .slice none 0 0] w (AdP w tag p V L []) := by
  obtain ⟨i1, hi1, hz0, hz1, hz2⟩ := info_parts info_ints
  have HI1 := Lib.hid (And.intro hi1 (And.intro hz0 (And.intro hz1 hz2)))
  clear hi1 hz0 hz1 hz2
  obtain ⟨k, hk⟩ : ∃ k, s.xs.length = k := ⟨_, rfl⟩
  obtain ⟨W3, hW3⟩ : ∃ W3, W3 = w.alloc (.cells #[.pointer (some ⟨p, 0, none⟩)] 44) := ⟨_, rfl⟩
  have hb0 : Below w.heap.size w W3 := by rw [hW3]; exact (Below.refl _ _).alloc (Nat.le_refl _) _
  have k3 : Blk W3 w.heap.size 44 #[.pointer (some ⟨p, 0, none⟩)] := by rw [hW3]; exact Blk.new w _ _
  have hs0 : W3.heap.size = w.heap.size + 1 := by rw [hW3]; simp
  obtain ⟨tag1, htag1⟩ : ∃ tag1, tag1 = put tag w.heap.size (0, 0) := ⟨_, rfl⟩
  have hre1 : Re w tag tag1 := by rw [htag1]; exact re_put (Nat.le_refl _)
  have htb1 : tag1 w.heap.size = (0, 0) := by rw [htag1]; exact put_same _ _ _
  have h3 := (h.re hre1).new hb0
  obtain ⟨vC, rows, bm, gv, gu, vt, wv⟩ := y
  have hrl : rows.length = k := by rw [← hk]; exact h.rlen
  obtain ⟨Ac, cc, hvC⟩ := h.hdr.form
  rw [hrl] at hvC
  dsimp only at hvC
  subst hvC
  have C1 := Lib.hid (Tryd.slices_Clone_own_nil 0 0 W3)
  have C2 := Lib.hid (sort_none 0 W3)
  have C3 := Lib.hid (compact_none 0 W3)
  have cb3 : W3.cell? ⟨w.heap.size, 0, none⟩ = some (.pointer (some ⟨p, 0, none⟩)) := k3.cell 0
  have c03 : W3.cell? ⟨p, 0, none⟩ = some (.slice Ac k cc) := h3.blk.cell 0
  have f03 : W3.frozen? ⟨p, 0, none⟩ = false := h3.blk.frozen 0
  have HHD := Lib.hid (show W3.ownsRow 0 27 1 (.slice Ac k cc) k rows from by
    have := h3.hdr.own
    rw [hrl] at this; exact this)
  have HPB := Lib.hid (show p < w.heap.size from h.blk.lt)
  have HW3 := Lib.hid hW3
  have HCG3 := Lib.hid (show Cg tag (Fr 9) w W3 from cg_new hb0)
  have K3 := Lib.hid k3
  have H3 := Lib.hid h3
  have HRE1 := Lib.hid hre1
  have HTB := Lib.hid htb1
  have HK := Lib.hid hk
  have HRL := Lib.hid hrl
  have HII := Lib.hid hi
  have hkL : k ≤ 900000 := by rw [← hk, hi.xlen]; exact hL
  clear hW3 hb0 hs0 k3 h3 hre1 htb1 htag1 hk hrl h hi
  go_enter Tryd.func18, Tryd.ntmps18
  go_upto_region 1 with fail
  rw [← HW3.out]
  go_wp2_with fail
  refine C1.out.mono ?_
  rintro e w1 ⟨rfl, hw1⟩
  rw [hw1]
  clear hw1
  go_wp2_with fail
  refine C2.out.mono ?_
  rintro e w1 ⟨rfl, hw1⟩
  rw [← hw1]
  clear hw1
  go_wp2_with fail
  refine C3.out.mono ?_
  rintro e w1 ⟨rfl, hw1⟩
  rw [← hw1]
  clear hw1
  go_wp2_with fail
  refine wp_region_mv (S := fun w' => w'.cell? ⟨w.heap.size, 0, none⟩ = some (.pointer (some ⟨p, 0, none⟩)) ∧ w'.cell? ⟨p, 0, none⟩ = some (.slice Ac k cc)) 10 [.f 0, .f 1, .f 2, .f 3, .f 4, .f 5, .t 6, .t 7, .t 8, .f 9, .t 10] (by kernel_rfl) (by kernel_rfl) (by kernel_rfl) (And.intro cb3 c03) ?_
  iterate 6 (refine mv_take _ _ rfl (by kernel_rfl) (fun wv hv => by obtain ⟨hv1, hv2⟩ := hv; go_simp; try with_reducible rfl) ?_; simp only [Act.put, List.getElem_toArray, List.getElem_cons_zero, List.getElem_cons_succ, List.setIfInBounds_toArray, List.set_cons_zero, List.set_cons_succ])
  refine mv_act _ rfl (fun K hK => ?_)
  go_simp
  go_simp
  refine hK _ _ (.inr ((And.intro ((K3.out.drew.alloc _).cell 0) ((H3.out.drew.alloc _).blk.cell 0)))) ?_
  clear hK K
  refine mv_act _ rfl (fun K hK => ?_)
  refine step_append_loc _ rfl (.tmp 22) (.tmp 24) _ rfl 0 27 i1 _ 1 24 Tryd.underlying54 HI1.out.1 HI1.out.2.1 HI1.out.2.2.1 HI1.out.2.2.2 rfl (by omega) (.slice Ac k cc) k rows rfl (World.ownsRow.alloc (World.ownsRow.drew HHD.out) _) (W3.heap.size + 1) (some ⟨W3.heap.size, 0, none⟩) 1 1 [.slice none 0 0] rfl (reads_new (by simp) (by simp) rfl) (by intro u hu; rw [List.mem_singleton.1 hu]; rfl) (le_maxLen (by omega)) (le_bytes (by omega) (by omega)) (by simp) ?_
  intro A6 c6 w6 hown6 hg6 hl6
  obtain ⟨tag6, hr6, hc6, hk6⟩ := (H3.out.drew.alloc (.cells #[.slice none 0 0] 27)).addX (x := []) (u := .slice none 0 0) (Row.nil _ _ _ _ _) hown6 (by rw [HK.out]) hg6 hl6
  have hb6 := (H3.out.drew.alloc (.cells #[.slice none 0 0] 27)).blk.grown hg6 (own_blk_ne (World.ownsRow.alloc (World.ownsRow.drew HHD.out) _) (H3.out.drew.alloc (.cells #[.slice none 0 0] 27)).blk (by decide)).symm
  have kb6 := (K3.out.drew.alloc (.cells #[.slice none 0 0] 27)).grown hg6 (own_blk_ne (World.ownsRow.alloc (World.ownsRow.drew HHD.out) _) (K3.out.drew.alloc (.cells #[.slice none 0 0] 27)) (by decide)).symm
  have cb6 : w6.cell? ⟨w.heap.size, 0, none⟩ = some (.pointer (some ⟨p, 0, none⟩)) := kb6.cell 0
  have c06 : w6.cell? ⟨p, 0, none⟩ = some (.slice Ac k cc) := hb6.cell 0
  have f06 : w6.frozen? ⟨p, 0, none⟩ = false := hb6.frozen 0
  have l06 : p < w6.heap.size := hb6.lt
  have HC6 := Lib.hid hc6
  have HK6 := Lib.hid hk6
  have HR6 := Lib.hid hr6
  have HKB6 := Lib.hid kb6
  clear hown6 hg6 hl6 hc6 hk6 hr6 hb6 kb6
  refine hK _ _ (.inr ((And.intro cb6 c06))) ?_
  clear hK K
  try simp only [Act.put, List.getElem_toArray, List.getElem_cons_zero, List.getElem_cons_succ, List.setIfInBounds_toArray, List.set_cons_zero, List.set_cons_succ]
  refine mv_act _ rfl (fun K hK => ?_)
  go_simp
  go_simp
  refine hK _ _ (.inr ((And.intro cb6 c06))) ?_
  clear hK K
  iterate 1 (refine mv_take _ _ rfl (by kernel_rfl) (fun wv hv => by obtain ⟨hv1, hv2⟩ := hv; go_simp; try with_reducible rfl) ?_; simp only [Act.put, List.getElem_toArray, List.getElem_cons_zero, List.getElem_cons_succ, List.setIfInBounds_toArray, List.set_cons_zero, List.set_cons_succ])
  refine mv_act _ rfl (fun K hK => ?_)
  go_simp
  go_simp
  refine hK _ _ (.inl rfl) ?_
  clear hK K
  refine mv_nil ?_
  obtain ⟨W7, hW7⟩ : ∃ W7, w6.setCell ⟨p, 0, none⟩ (.slice A6 (k + 1) c6) = W7 := ⟨_, rfl⟩
  have hc7 := HC6.out
  have hk7 := HK6.out
  have kb7 : Blk W7 w.heap.size 44 #[.pointer (some ⟨p, 0, none⟩)] := by rw [← hW7]; exact HKB6.out.far (by have := HPB.out; show w.heap.size ≠ p; omega) _
  rw [hW7] at hc7 hk7 ⊢
  have hre6 : Re w tag tag6 := HRE1.out.trans (fun g' hg' => HR6.out g' (by simp; omega)) HCG3.out.size
  have hcg7 : Cg tag (Fr 9) w W7 := by
    have h1 : Cg tag1 (Fr 9) W3 W7 := (cg_new ((below_drewN (Below.refl _ _) 1).alloc (Nat.le_refl _) (.cells #[.slice none 0 0] 27))).trans (hc7.mono_ fun t ht => ⟨ht.1, by have := ht.2; omega⟩)
    exact HCG3.out.trans_ h1 HRE1.out
  have c67 : W7.cell? ⟨p, 6, none⟩ = some (.int .i64 dd) := hk7.blk.cell 6
  have f67 : W7.frozen? ⟨p, 6, none⟩ = false := hk7.blk.frozen 6
  have l7 : p < W7.heap.size := hk7.blk.lt
  have cb7 : W7.cell? ⟨w.heap.size, 0, none⟩ = some (.pointer (some ⟨p, 0, none⟩)) := kb7.cell 0
  have HK7 := Lib.hid hk7
  have HRE := Lib.hid hre6
  have HCG7 := Lib.hid hcg7
  clear cb6 c06 f06 l06 cb3 c03 f03 hW7 hc7 hk7 kb7 hre6 hcg7 HC6 HK6 HR6 HKB6 HCG3 K3 H3 HHD HRE1 HTB
  by_cases hdd : dd = -1
  · as_aux_lemma =>
    subst hdd
    have CS := Lib.hid (sort_stable_none 0 (.func (.func 35) #[] #[.pointer (some ⟨w.heap.size, 0, none⟩)]) W7)
    have hmf : ∀ (fn : Fn) (first cap : Array Value) (w : World), (Instr.makeFunc fn first cap).run Tryd.prog w = .ok (.func fn first cap) w := fun _ _ _ _ => rfl
    have HE := Lib.hid (fun j => show AdP w tag p V L [] (.returned (.tuple #[])) ((W7.drewN j).setCell ⟨p, 6, none⟩ (.int .i64 (k : Nat))) from
      adp_dead (s1 := { s with xs := s.xs ++ [[]] }) HRE.out (Cg.w89 (HCG7.out.trans (cg_new (below_drewN (Below.refl _ _) j))) ((HK7.out.drewN j).setDd _).2 HRE.out) ((HK7.out.drewN j).setDd _).1 (by simp [HII.out.xlen]) HII.out.vlen (by rw [← HK.out, HII.out.xlen]) ((HII.out.live rfl).false_ (x := []) (fun n => Iff.rfl) (fun n hn => by cases hn) (fun n hn => by cases hn)))
    go_wp2_with fail
    clear hmf
    refine CS.out.mono ?_
    rintro e w8 ⟨rfl, hw8⟩
    rw [← hw8]
    clear hw8
    go_wp2_with fail
    go_quiet (fail)
    all_goals
      go_wp2_with fail
      go_end0
      exact HE.out _
  · as_aux_lemma =>
    have hdd0 := (HII.out.dead hdd).1.1
    have HE := Lib.hid (show AdP w tag p V L [] (.returned (.tuple #[])) W7 from ⟨rfl, tag6, _, { s with xs := s.xs ++ [[]] }, us, fx, dd, HRE.out, HCG7.out, HK7.out, by simp [HII.out.xlen], HII.out.vlen, fun e => absurd e hdd, fun h => ⟨⟨(HII.out.dead h).1.1, by have := (HII.out.dead h).1.2; simp; omega⟩, (HII.out.dead h).2.mono fun _ => mem_snoc⟩⟩)
    clear hdd
    go_wp2_with fail
    go_end0
    exact HE.out
/-- a clause's slice, of a row of the call's own or nil -/
def RdO (w : World) (u : Value) (l : List Int) : Prop :=
  (u = .slice none 0 0 ∧ l = []) ∨ ∃ b c, u = .slice (some ⟨b, 0, none⟩) l.length c ∧ ∀ (j : Nat) x, (litVals l)[j]? = some x → w.cell? ⟨b, j, none⟩ = some x
theorem rdO_own {base n : Nat} {u : Value} (h : w.ownsRow base 3 1 u n (litVals l)) : RdO w u l := by
  have hn : l.length = n := by have := h.1; rw [litVals_len] at this; omega
  rcases h.2 with ⟨e, h0⟩ | ⟨g, c, cur, e, _, hh, _, _, _, ht⟩
  · exact .inl ⟨e, List.eq_nil_of_length_eq_zero (by omega)⟩
  · refine .inr ⟨g, c, by rw [hn]; exact e, fun j x hx => ?_⟩
    rw [cell_of_row w g j cur _ (0, 0) hh]
    rw [← ht, List.getElem?_take] at hx
    split at hx
    · simpa using hx
    · cases hx
theorem RdO.keep {u : Value} (h : RdO w u l) (hc : ∀ g (o : Obj), w.heap[g]? = some o → w'.heap[g]? = some o ∨ u.ownBlock ≠ some g) : RdO w' u l := by
  rcases h with h | ⟨b, c, rfl, hx⟩
  · exact .inl h
  · refine .inr ⟨b, c, rfl, fun j x hj => ?_⟩
    have h1 := hx j x hj
    rw [← h1]
    refine World.cell?_of_block ?_
    cases e : w.heap[b]? with
    | none => rw [World.cell?] at h1; simp [e] at h1
    | some o =>
      rcases hc b o e with h2 | h2
      · exact h2
      · exact absurd rfl h2
theorem add_any {u : Value} (h : Chk w tag p V y s.xs s.wt s.vs s.tr us fx dd) (hi : CkI V L s fx dd) (hV : V ≤ 150000) (hL : L.length ≤ 900000) (hl : l.length ≤ 100000) (hlit : ∀ m ∈ l, Lit V m) (hr : RdO w u l) :
    Calls Tryd.prog 18 #[.pointer (some ⟨p, 0, none⟩), u] w (AdP w tag p V L l) := by
  rcases hr with ⟨rfl, rfl⟩ | ⟨b, c, rfl, hx⟩
  · exact add_none h hi hV hL
  · exact add_some h hi hV hL rfl hl hlit hx
end
end Go.Proofs.YtgchepkcjkhmmaaDoor
