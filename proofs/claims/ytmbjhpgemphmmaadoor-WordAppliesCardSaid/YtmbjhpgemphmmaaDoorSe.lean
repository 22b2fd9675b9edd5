/-
  WALKS of package word: Of, of neg, not, if.
  WALKS of package word: Of, of = and <>.
  WALKS of package word: Of, of two bools.
  word.Of by the operator's number: what it answers.
-/
import Derived.Test.YtmbjhpgemphmmaaDoorSo
import Derived.Test.YtmbjhpgemphmmaaDoorSd
namespace Go.Proofs.YtmbjhpgemphmmaaDoor
open Go.RowKit
attribute [local irreducible] wpSeq wpStill
set_option maxRecDepth 100000 in
set_option maxHeartbeats 4000000 in
theorem of_neg {w : World} {B b LB : Nat} {gs : List Gm.Gate} (h : GA w B b gs) (hL : Lvls w LB) (hLB : LB ≤ w.heap.size) {A : Option Addr} {c : Nat} {xs : List Nat} (hxs : xs.length = 8) (gx : AllHas gs xs) (hp : PartsAt w B A [xs]) (hn : gs.length ≤ 90000) :
    Calls Tryd.prog 17 #[.pointer (some ⟨b, 0, none⟩), .string ⟨#[110, 101, 103]⟩, .slice A 1 c] w (OfP w B b gs (9 * 8) (8) (fun inp => Wp.negB (evs inp gs xs)) (fun _ => false)) := by
  obtain ⟨ad, hA, hadlt⟩ : ∃ ad, A = some ad ∧ ad.block < w.heap.size := by
    obtain ⟨ad, o, hA, ho, _, _⟩ := hp; exact ⟨ad, hA, lt_of_heap ho⟩
  subst hA
  have HAD := Lib.hid hadlt
  have HOK := Lib.hid (show ∀ zs ∈ [xs], PartOk gs zs from parts_ok1 ⟨gx, by omega, by omega⟩)
  obtain ⟨WA, hWA⟩ : ∃ WA, WA = ((w.alloc (.cells #[.slice none 0 0] 28)).alloc (.cells #[.int .i64 0] 29)).alloc (.cells #[.nilIface] 31) := ⟨_, rfl⟩
  have hba : Below w.heap.size w WA := by rw [hWA]; exact (((Below.refl _ _).alloc (Nat.le_refl _) _).alloc (by simp) _).alloc (by simp; omega) _
  have b6 : Blk WA w.heap.size 28 #[.slice none 0 0] := by rw [hWA]; exact ((Blk.new w _ _).alloc _).alloc _
  have b7 : Blk WA (w.heap.size + 1) 29 #[.int .i64 0] := by
    rw [hWA]; have := (Blk.new (w.alloc (.cells #[.slice none 0 0] 28)) 29 #[.int .i64 0]).alloc (.cells #[.nilIface] 31); simpa using this
  have b8 : Blk WA (w.heap.size + 2) 31 #[.nilIface] := by
    rw [hWA]; have := Blk.new ((w.alloc (.cells #[.slice none 0 0] 28)).alloc (.cells #[.int .i64 0] 29)) 31 #[.nilIface]; simpa using this
  have hsa : WA.heap.size = w.heap.size + 3 := by rw [hWA]; simp
  have CS := Lib.hid (show Calls Tryd.prog 41 #[.string ⟨#[110, 101, 103]⟩, .slice (some ad) 1 c] WA (ShP WA true) from by
    have hl : Lens WA (some ad) [8] := by have hq := (hp.new hba).lens; simpa [hxs] using hq
    have hs := shape_neg (c := c) (hL.below hba hLB) (by omega) hl (b0 := true) rfl
    rwa [show (true) = true from rfl] at hs)
  have HPW := Lib.hid hp
  have HPA := Lib.hid (hp.new hba)
  have HGA := Lib.hid (h.new hba)
  have HBA := Lib.hid hba
  have HB678 := Lib.hid (And.intro b6 (And.intro b7 b8))
  have HWA := Lib.hid hWA
  have HSA := Lib.hid hsa
  have HNL := Lib.hid hn
  clear h hL hp hba b6 b7 b8 hWA hsa hn hadlt
  have hmf : ∀ (fn : Fn) (first cap : Array Value) (w : World), (Instr.makeFunc fn first cap).run Tryd.prog w = .ok (.func fn first cap) w := fun _ _ _ _ => rfl
  go_enter_defers Tryd.func17, Tryd.ntmps17
  go_wp2_with fail
  rw [← HWA.out]
  refine CS.out.mono ?_
  rintro e w1 ⟨rfl, hb⟩
  have HP1 := Lib.hid (HPA.out.new hb)
  have HG1 := Lib.hid (HGA.out.new hb)
  have HB1 := Lib.hid hb
  obtain ⟨ad', o, hA', _, _, hcell⟩ := HPA.out.new hb
  obtain rfl : ad = ad' := by injection hA'
  have HCL := Lib.hid hcell
  clear hb hcell hA'
  go_wp2_with fail
  go_loop [21] (fun iv => LcR 1 iv) (fun iv => 1 - (intOf iv).toNat)
  case atStart => exact ⟨0, by omega, rfl⟩
  case round =>
    obtain ⟨k0, hk, rfl⟩ := hrel
    by_cases hk2 : k0 < 1
    · obtain ⟨zs, hz⟩ : ∃ zs, [xs][k0]? = some zs := ⟨_, List.getElem?_eq_getElem (by simpa using hk2)⟩
      have hzh := HOK.out zs (List.mem_of_getElem? hz)
      obtain ⟨Ai, ci, hci, hh⟩ := HCL.out k0 zs hz
      obtain ⟨adz, rfl⟩ := hh.form (by have := hzh.2.1; omega)
      have HH := Lib.hid hh
      have HZ := Lib.hid hzh
      obtain ⟨m, hm⟩ : ∃ m, zs.length = m := ⟨_, rfl⟩
      have hm1 : 1 ≤ m ∧ m ≤ 8 := by rw [← hm]; exact hzh.2
      obtain ⟨hm1, hm8⟩ := hm1
      rw [hm] at hci
      have HM := Lib.hid hm
      clear hz hh hzh hm
      go_wp2_with fail
      go_loop [27] (fun jv => LcR m jv) (fun jv => m - (intOf jv).toNat)
      case atStart => exact ⟨0, by omega, rfl⟩
      try case atStart => exact ⟨0, by omega, rfl⟩
      case round =>
        obtain ⟨j, hj, rfl⟩ := hrel
        by_cases hj8 : j < m
        · obtain ⟨x, hx⟩ : ∃ x, zs[j]? = some x := ⟨_, List.getElem?_eq_getElem (by rw [HM.out]; exact hj8)⟩
          have cx := HH.out.at_ hx
          have CX := Lib.hid (has_lit HG1.out (HZ.out.1 x (List.mem_of_getElem? hx)) (Nat.le_trans HNL.out (by omega)))
          clear hx
          go_wp2_with fail
          refine CX.out.mono ?_
          rintro e w' ⟨rfl, rfl⟩
          go_wp2_with fail
          go_round
          case rel => exact ⟨j + 1, by omega, by go_num⟩
          case measure => simp [intOf]; omega
        · obtain rfl : j = m := by omega
          go_wp2_with fail
          go_round
          case rel => exact ⟨k0 + 1, by omega, by go_num⟩
          case measure => simp [intOf]; omega
    · obtain rfl : k0 = 1 := by omega
      obtain ⟨A0, c0, h0, hh0⟩ := HCL.out 0 (xs) rfl
      rw [hxs] at h0 hh0
      obtain ⟨b6, b7, b8⟩ := HB678.out
      have b6' := b6.below HB1.out (by rw [HSA.out]; omega)
      have b7' := b7.below HB1.out (by rw [HSA.out]; omega)
      have b8' := b8.below HB1.out (by rw [HSA.out]; omega)
      obtain ⟨W2, hW2⟩ : ∃ W2, W2 = (w1.alloc (.cells #[.pointer (some ⟨b, 0, none⟩)] 106)).drew := ⟨_, rfl⟩
      have b13 : Blk W2 w1.heap.size 106 #[.pointer (some ⟨b, 0, none⟩)] := by rw [hW2]; exact (Blk.new w1 _ _).drew
      have hb12 : Below w1.heap.size w1 W2 := by rw [hW2]; exact below_drewN ((Below.refl _ _).alloc (Nat.le_refl _) _) 1
      have hs1 := HB1.out.size
      have hsa := HSA.out
      have HBW2 := Lib.hid (show Below w.heap.size w W2 from HBA.out.trans ((HB1.out.trans (hb12.mono hs1)).mono (by omega)))
      have hbw2 := HBW2.out
      have HB678 := Lib.hid (And.intro (b6'.below hb12 b6'.lt) (And.intro (b7'.below hb12 b7'.lt) (b8'.below hb12 b8'.lt)))
      have hpw := HP1.out.new hb12
      have HS := Lib.hid (show ∀ w' : World, Chg (GT B) W2 w' → w'.cell? ⟨w1.heap.size, 0, none⟩ = some (.pointer (some ⟨b, 0, none⟩)) ∧ w'.cell? ad = some (.slice A0 8 c0) from fun w' hc => ⟨(box_gt b13 hc).cell 0, (hpw.same hc 0).trans ((hb12.cell (World.block_lt_of_cell? _ _ h0)).trans h0)⟩)
      have HKS := Lib.hid (show ∀ w' w'' : World, (∀ p : Addr, p.block < w.heap.size ∨ w.heap.size + 3 ≤ p.block → w''.cell? p = w'.cell? p) → (w'.cell? ⟨w1.heap.size, 0, none⟩ = some (.pointer (some ⟨b, 0, none⟩)) ∧ w'.cell? ad = some (.slice A0 8 c0)) → w''.cell? ⟨w1.heap.size, 0, none⟩ = some (.pointer (some ⟨b, 0, none⟩)) ∧ w''.cell? ad = some (.slice A0 8 c0) from fun w' w'' hk h => by
        obtain ⟨q0, q1⟩ := h
        exact ⟨(hk _ (.inr (by show w.heap.size + 3 ≤ w1.heap.size; omega))).trans q0, (hk _ (.inl (by show ad.block < w.heap.size; exact HAD.out))).trans q1⟩)
      have hg2 := HG1.out.new hb12
      have hh02 := hh0.new hb12
      have CI := Lib.hid (neg_any (c := c0) hg2 hh02 gx (by have := HNL.out; omega) (by omega))
      have HBX := Lib.hid b13
      have HG2 := Lib.hid hg2
      have HS1 := Lib.hid (And.intro hs1 hsa)
      have HW2 := Lib.hid hW2
      clear hpw hg2 hs1 hsa b6 b7 b8 b6' b7' b8' hW2 b13 hb12 hbw2 h0 hh0 hh02
      go_wp2_with fail
      refine wp_region_seq (S := fun w' => w'.cell? ⟨w1.heap.size, 0, none⟩ = some (.pointer (some ⟨b, 0, none⟩)) ∧ w'.cell? ad = some (.slice A0 8 c0)) [(0, false), (1, false), (2, false), (3, false), (4, true), (5, true), (6, true), (7, true)] (by kernel_rfl) (by kernel_rfl) (by kernel_rfl) (by rw [← HW2.out]; exact HS.out _ (Chg.refl _ _)) ?_
      rw [← HW2.out]
      iterate 4 (refine seq_take _ _ rfl (by kernel_rfl) (fun wv hv => by obtain ⟨hv1, hv2⟩ := hv; go_simp; try with_reducible rfl) ?_; simp only [Act.put, List.getElem_toArray, List.getElem_cons_zero, List.getElem_cons_succ, List.setIfInBounds_toArray, List.set_cons_zero, List.set_cons_succ])
      refine seq_act _ rfl (fun K hK => ?_)
      go_simp
      refine CI.out.mono ?_
      rintro e w3 ⟨A3, c3, gs3, l3, rfl, h1, h2, h3, h4⟩
      have HGX := Lib.hid h1
      have HCX := Lib.hid ((Chg.of_new (S := GT B) HBW2.out).trans h2)
      have HOX := Lib.hid h3
      have HM := Lib.hid h4
      have HSX := Lib.hid (HS.out _ h2)
      have HOB := Lib.hid (show w.heap.size + 3 ≤ W2.heap.size from by have := HB678.out.2.2.lt; omega)
      have HB3 := Lib.hid (show Blk w3 w.heap.size 28 #[.slice none 0 0] ∧ Blk w3 (w.heap.size + 1) 29 #[.int .i64 0] ∧ Blk w3 (w.heap.size + 2) 31 #[.nilIface] from
        ⟨HB678.out.1.chg h2 fun hs => by rcases hs.2 with e | e | e <;> simp [elemOf] at e, HB678.out.2.1.chg h2 fun hs => by rcases hs.2 with e | e | e <;> simp [elemOf] at e, HB678.out.2.2.chg h2 fun hs => by rcases hs.2 with e | e | e <;> simp [elemOf] at e⟩)
      clear h1 h2 h3 h4
      go_simp
      refine hK _ _ (HSX.out) ?_
      clear hK K
      obtain ⟨W7, hW7⟩ : ∃ W7, W7 = w3.setCell ⟨w.heap.size, 0, none⟩ (.slice A3 8 c3) := ⟨_, rfl⟩
      obtain ⟨W8, hW8⟩ : ∃ W8, W8 = W7.setCell ⟨w.heap.size + 1, 0, none⟩ (.int .i64 0) := ⟨_, rfl⟩
      obtain ⟨W9, hW9⟩ : ∃ W9, W9 = W8.setCell ⟨w.heap.size + 2, 0, none⟩ .nilIface := ⟨_, rfl⟩
      have ht := tail3 HB3.out.1 HB3.out.2.1 HB3.out.2.2 hW7 hW8 hW9
      have HT := Lib.hid ht
      have cc6 := ht.c6
      have ff6 := ht.f6
      have cc7 := ht.c7
      have ff7 := ht.f7
      have cc8 := ht.c8
      have ff8 := ht.f8
      have HW7 := Lib.hid hW7
      have HW8 := Lib.hid hW8
      have HW9 := Lib.hid hW9
      clear hW7 hW8 hW9 ht
      refine seq_act _ rfl (fun K hK => ?_)
      go_simp
      refine hK _ _ ((by rw [← HW7.out]; exact HKS.out _ _ HT.out.k7 HSX.out)) ?_
      clear hK K
      try simp only [Act.put, List.getElem_toArray, List.getElem_cons_zero, List.getElem_cons_succ, List.setIfInBounds_toArray, List.set_cons_zero, List.set_cons_succ]
      refine seq_act _ rfl (fun K hK => ?_)
      go_simp
      refine hK _ _ ((by rw [← HW7.out, ← HW8.out]; exact HKS.out _ _ HT.out.k8 HSX.out)) ?_
      clear hK K
      try simp only [Act.put, List.getElem_toArray, List.getElem_cons_zero, List.getElem_cons_succ, List.setIfInBounds_toArray, List.set_cons_zero, List.set_cons_succ]
      refine seq_act _ rfl (fun K hK => ?_)
      go_simp
      refine hK _ _ ((by rw [← HW7.out, ← HW8.out, ← HW9.out]; exact HKS.out _ _ HT.out.k9 HSX.out)) ?_
      clear hK K
      try simp only [Act.put, List.getElem_toArray, List.getElem_cons_zero, List.getElem_cons_succ, List.setIfInBounds_toArray, List.set_cons_zero, List.set_cons_succ]
      refine seq_nil ?_
      rw [← HW7.out, ← HW8.out, ← HW9.out]
      clear cc6 ff6 cc7 ff7 cc8 ff8
      go_wp2_with fail
      refine leaves_cons (f := 42) (args := #[.pointer (some ⟨w.heap.size, 0, none⟩), .pointer (some ⟨w.heap.size + 1, 0, none⟩), .pointer (some ⟨w.heap.size + 2, 0, none⟩)]) (by simp) (by simp [go_sem]) ?_
      refine (of_idle _ _ _ _).mono ?_
      rintro e u' w'' ⟨rfl, rfl, rfl⟩
      have x6 := HT.out.e6.cell 0
      have x7 := HT.out.e7.cell 0
      have x8 := HT.out.e8.cell 0
      have HKEY := Lib.hid (of_key HT.out HGX.out HCX.out HOX.out (by have := HBW2.out.size; have := HB3.out.2.2.lt; have := HOB.out; omega) HM.out)
      simp [Leaves, settle, results, Tryd.results17, go_sem, x6, x7, x8]
      exact HKEY.out
set_option maxRecDepth 100000 in
set_option maxHeartbeats 4000000 in
theorem of_not {w : World} {B b LB : Nat} {gs : List Gm.Gate} (h : GA w B b gs) (hL : Lvls w LB) (hLB : LB ≤ w.heap.size) {A : Option Addr} {c : Nat} {xs : List Nat} (hxs : xs.length = 1) (gx : AllHas gs xs) (hp : PartsAt w B A [xs]) (hn : gs.length ≤ 90000) :
    Calls Tryd.prog 17 #[.pointer (some ⟨b, 0, none⟩), .string ⟨#[110, 111, 116]⟩, .slice A 1 c] w (OfP w B b gs (0) (1) (fun inp => (evs inp gs xs).map (!·)) (fun _ => false)) := by
  obtain ⟨ad, hA, hadlt⟩ : ∃ ad, A = some ad ∧ ad.block < w.heap.size := by
    obtain ⟨ad, o, hA, ho, _, _⟩ := hp; exact ⟨ad, hA, lt_of_heap ho⟩
  subst hA
  have HAD := Lib.hid hadlt
  have HOK := Lib.hid (show ∀ zs ∈ [xs], PartOk gs zs from parts_ok1 ⟨gx, by omega, by omega⟩)
  obtain ⟨WA, hWA⟩ : ∃ WA, WA = ((w.alloc (.cells #[.slice none 0 0] 28)).alloc (.cells #[.int .i64 0] 29)).alloc (.cells #[.nilIface] 31) := ⟨_, rfl⟩
  have hba : Below w.heap.size w WA := by rw [hWA]; exact (((Below.refl _ _).alloc (Nat.le_refl _) _).alloc (by simp) _).alloc (by simp; omega) _
  have b6 : Blk WA w.heap.size 28 #[.slice none 0 0] := by rw [hWA]; exact ((Blk.new w _ _).alloc _).alloc _
  have b7 : Blk WA (w.heap.size + 1) 29 #[.int .i64 0] := by
    rw [hWA]; have := (Blk.new (w.alloc (.cells #[.slice none 0 0] 28)) 29 #[.int .i64 0]).alloc (.cells #[.nilIface] 31); simpa using this
  have b8 : Blk WA (w.heap.size + 2) 31 #[.nilIface] := by
    rw [hWA]; have := Blk.new ((w.alloc (.cells #[.slice none 0 0] 28)).alloc (.cells #[.int .i64 0] 29)) 31 #[.nilIface]; simpa using this
  have hsa : WA.heap.size = w.heap.size + 3 := by rw [hWA]; simp
  have CS := Lib.hid (show Calls Tryd.prog 41 #[.string ⟨#[110, 111, 116]⟩, .slice (some ad) 1 c] WA (ShP WA true) from by
    have hl : Lens WA (some ad) [1] := by have hq := (hp.new hba).lens; simpa [hxs] using hq
    have hs := shape_not (c := c) (hL.below hba hLB) (by omega) hl (b0 := true) rfl
    rwa [show (true) = true from rfl] at hs)
  have HPW := Lib.hid hp
  have HPA := Lib.hid (hp.new hba)
  have HGA := Lib.hid (h.new hba)
  have HBA := Lib.hid hba
  have HB678 := Lib.hid (And.intro b6 (And.intro b7 b8))
  have HWA := Lib.hid hWA
  have HSA := Lib.hid hsa
  have HNL := Lib.hid hn
  clear h hL hp hba b6 b7 b8 hWA hsa hn hadlt
  have hmf : ∀ (fn : Fn) (first cap : Array Value) (w : World), (Instr.makeFunc fn first cap).run Tryd.prog w = .ok (.func fn first cap) w := fun _ _ _ _ => rfl
  go_enter_defers Tryd.func17, Tryd.ntmps17
  go_wp2_with fail
  rw [← HWA.out]
  refine CS.out.mono ?_
  rintro e w1 ⟨rfl, hb⟩
  have HP1 := Lib.hid (HPA.out.new hb)
  have HG1 := Lib.hid (HGA.out.new hb)
  have HB1 := Lib.hid hb
  obtain ⟨ad', o, hA', _, _, hcell⟩ := HPA.out.new hb
  obtain rfl : ad = ad' := by injection hA'
  have HCL := Lib.hid hcell
  clear hb hcell hA'
  go_wp2_with fail
  go_loop [21] (fun iv => LcR 1 iv) (fun iv => 1 - (intOf iv).toNat)
  case atStart => exact ⟨0, by omega, rfl⟩
  case round =>
    obtain ⟨k0, hk, rfl⟩ := hrel
    by_cases hk2 : k0 < 1
    · obtain ⟨zs, hz⟩ : ∃ zs, [xs][k0]? = some zs := ⟨_, List.getElem?_eq_getElem (by simpa using hk2)⟩
      have hzh := HOK.out zs (List.mem_of_getElem? hz)
      obtain ⟨Ai, ci, hci, hh⟩ := HCL.out k0 zs hz
      obtain ⟨adz, rfl⟩ := hh.form (by have := hzh.2.1; omega)
      have HH := Lib.hid hh
      have HZ := Lib.hid hzh
      obtain ⟨m, hm⟩ : ∃ m, zs.length = m := ⟨_, rfl⟩
      have hm1 : 1 ≤ m ∧ m ≤ 8 := by rw [← hm]; exact hzh.2
      obtain ⟨hm1, hm8⟩ := hm1
      rw [hm] at hci
      have HM := Lib.hid hm
      clear hz hh hzh hm
      go_wp2_with fail
      go_loop [27] (fun jv => LcR m jv) (fun jv => m - (intOf jv).toNat)
      case atStart => exact ⟨0, by omega, rfl⟩
      try case atStart => exact ⟨0, by omega, rfl⟩
      case round =>
        obtain ⟨j, hj, rfl⟩ := hrel
        by_cases hj8 : j < m
        · obtain ⟨x, hx⟩ : ∃ x, zs[j]? = some x := ⟨_, List.getElem?_eq_getElem (by rw [HM.out]; exact hj8)⟩
          have cx := HH.out.at_ hx
          have CX := Lib.hid (has_lit HG1.out (HZ.out.1 x (List.mem_of_getElem? hx)) (Nat.le_trans HNL.out (by omega)))
          clear hx
          go_wp2_with fail
          refine CX.out.mono ?_
          rintro e w' ⟨rfl, rfl⟩
          go_wp2_with fail
          go_round
          case rel => exact ⟨j + 1, by omega, by go_num⟩
          case measure => simp [intOf]; omega
        · obtain rfl : j = m := by omega
          go_wp2_with fail
          go_round
          case rel => exact ⟨k0 + 1, by omega, by go_num⟩
          case measure => simp [intOf]; omega
    · obtain rfl : k0 = 1 := by omega
      obtain ⟨A0, c0, h0, hh0⟩ := HCL.out 0 (xs) rfl
      rw [hxs] at h0 hh0
      obtain ⟨b6, b7, b8⟩ := HB678.out
      have b6' := b6.below HB1.out (by rw [HSA.out]; omega)
      have b7' := b7.below HB1.out (by rw [HSA.out]; omega)
      have b8' := b8.below HB1.out (by rw [HSA.out]; omega)
      obtain ⟨W2, hW2⟩ : ∃ W2, W2 = (w1.alloc (.cells #[.pointer (some ⟨b, 0, none⟩)] 106)) := ⟨_, rfl⟩
      have b13 : Blk W2 w1.heap.size 106 #[.pointer (some ⟨b, 0, none⟩)] := by rw [hW2]; exact Blk.new w1 _ _
      have hb12 : Below w1.heap.size w1 W2 := by rw [hW2]; exact (Below.refl _ _).alloc (Nat.le_refl _) _
      have hs1 := HB1.out.size
      have hsa := HSA.out
      have HBW2 := Lib.hid (show Below w.heap.size w W2 from HBA.out.trans ((HB1.out.trans (hb12.mono hs1)).mono (by omega)))
      have hbw2 := HBW2.out
      have HB678 := Lib.hid (And.intro (b6'.below hb12 b6'.lt) (And.intro (b7'.below hb12 b7'.lt) (b8'.below hb12 b8'.lt)))
      have hpw := HP1.out.new hb12
      have HS := Lib.hid (show ∀ w' : World, Chg (GT B) W2 w' → w'.cell? ⟨w1.heap.size, 0, none⟩ = some (.pointer (some ⟨b, 0, none⟩)) ∧ w'.cell? ad = some (.slice A0 1 c0) from fun w' hc => ⟨(box_gt b13 hc).cell 0, (hpw.same hc 0).trans ((hb12.cell (World.block_lt_of_cell? _ _ h0)).trans h0)⟩)
      have HKS := Lib.hid (show ∀ w' w'' : World, (∀ p : Addr, p.block < w.heap.size ∨ w.heap.size + 3 ≤ p.block → w''.cell? p = w'.cell? p) → (w'.cell? ⟨w1.heap.size, 0, none⟩ = some (.pointer (some ⟨b, 0, none⟩)) ∧ w'.cell? ad = some (.slice A0 1 c0)) → w''.cell? ⟨w1.heap.size, 0, none⟩ = some (.pointer (some ⟨b, 0, none⟩)) ∧ w''.cell? ad = some (.slice A0 1 c0) from fun w' w'' hk h => by
        obtain ⟨q0, q1⟩ := h
        exact ⟨(hk _ (.inr (by show w.heap.size + 3 ≤ w1.heap.size; omega))).trans q0, (hk _ (.inl (by show ad.block < w.heap.size; exact HAD.out))).trans q1⟩)
      have hg2 := HG1.out.new hb12
      have hh02 := hh0.new hb12
      have CI := Lib.hid (turned_any (c := c0) hh02 (allHas_small gx (by have := HNL.out; omega)) (by omega))
      have HBX := Lib.hid b13
      have HG2 := Lib.hid hg2
      have HS1 := Lib.hid (And.intro hs1 hsa)
      have HW2 := Lib.hid hW2
      clear hpw hg2 hs1 hsa b6 b7 b8 b6' b7' b8' hW2 b13 hb12 hbw2 h0 hh0 hh02
      go_upto_region 17 with fail
      rw [← HW2.out]
      obtain ⟨q0, q1⟩ := HS.out _ (Chg.refl _ W2)
      go_wp2_with fail
      refine CI.out.mono ?_
      rintro e w3 ⟨A3, c3, rfl, h3, hb3⟩
      have h2 : Chg (GT B) W2 w3 := .of_new hb3
      have HGX := Lib.hid (HG2.out.new hb3)
      have HCX := Lib.hid ((Chg.of_new (S := GT B) HBW2.out).trans h2)
      have HOX := Lib.hid h3
      have HM := Lib.hid (madeW_not gx)
      have HSX := Lib.hid (HS.out _ h2)
      have HOB := Lib.hid (show w.heap.size + 3 ≤ W2.heap.size from by have := HB678.out.2.2.lt; omega)
      have HB3 := Lib.hid (show Blk w3 w.heap.size 28 #[.slice none 0 0] ∧ Blk w3 (w.heap.size + 1) 29 #[.int .i64 0] ∧ Blk w3 (w.heap.size + 2) 31 #[.nilIface] from
        ⟨HB678.out.1.chg h2 fun hs => by rcases hs.2 with e | e | e <;> simp [elemOf] at e, HB678.out.2.1.chg h2 fun hs => by rcases hs.2 with e | e | e <;> simp [elemOf] at e, HB678.out.2.2.chg h2 fun hs => by rcases hs.2 with e | e | e <;> simp [elemOf] at e⟩)
      clear h2 h3 hb3
      obtain ⟨W7, hW7⟩ : ∃ W7, W7 = w3.setCell ⟨w.heap.size, 0, none⟩ (.slice A3 1 c3) := ⟨_, rfl⟩
      obtain ⟨W8, hW8⟩ : ∃ W8, W8 = W7.setCell ⟨w.heap.size + 1, 0, none⟩ (.int .i64 0) := ⟨_, rfl⟩
      obtain ⟨W9, hW9⟩ : ∃ W9, W9 = W8.setCell ⟨w.heap.size + 2, 0, none⟩ .nilIface := ⟨_, rfl⟩
      have ht := tail3 HB3.out.1 HB3.out.2.1 HB3.out.2.2 hW7 hW8 hW9
      have HT := Lib.hid ht
      have cc6 := ht.c6
      have ff6 := ht.f6
      have cc7 := ht.c7
      have ff7 := ht.f7
      have cc8 := ht.c8
      have ff8 := ht.f8
      have HW7 := Lib.hid hW7
      have HW8 := Lib.hid hW8
      have HW9 := Lib.hid hW9
      clear hW7 hW8 hW9 ht
      go_wp2_with fail
      rw [← HW7.out, ← HW8.out, ← HW9.out]
      clear cc6 ff6 cc7 ff7 cc8 ff8
      refine leaves_cons (f := 42) (args := #[.pointer (some ⟨w.heap.size, 0, none⟩), .pointer (some ⟨w.heap.size + 1, 0, none⟩), .pointer (some ⟨w.heap.size + 2, 0, none⟩)]) (by simp) (by simp [go_sem]) ?_
      refine (of_idle _ _ _ _).mono ?_
      rintro e u' w'' ⟨rfl, rfl, rfl⟩
      have x6 := HT.out.e6.cell 0
      have x7 := HT.out.e7.cell 0
      have x8 := HT.out.e8.cell 0
      have HKEY := Lib.hid (of_key HT.out HGX.out HCX.out HOX.out (by have := HBW2.out.size; have := HB3.out.2.2.lt; have := HOB.out; omega) HM.out)
      simp [Leaves, settle, results, Tryd.results17, go_sem, x6, x7, x8]
      exact HKEY.out
set_option maxRecDepth 100000 in
set_option maxHeartbeats 4000000 in
theorem of_if {w : World} {B b LB : Nat} {gs : List Gm.Gate} (h : GA w B b gs) (hL : Lvls w LB) (hLB : LB ≤ w.heap.size) {A : Option Addr} {c : Nat} {x n : Nat} {us vs : List Nat} (hus : us.length = n) (hvs : vs.length = n) (hn18 : n = 1 ∨ n = 8) (gx : Gm.has gs x) (gy : AllHas gs us) (gz : AllHas gs vs) (hp : PartsAt w B A [[x], us, vs]) (hn : gs.length ≤ 90000) :
    Calls Tryd.prog 17 #[.pointer (some ⟨b, 0, none⟩), .string ⟨#[105, 102]⟩, .slice A 3 c] w (OfP w B b gs (3 * n) (n) (fun inp => Wp.pickB (Gm.ev inp gs x) (evs inp gs us) (evs inp gs vs)) (fun _ => false)) := by
  obtain ⟨ad, hA, hadlt⟩ : ∃ ad, A = some ad ∧ ad.block < w.heap.size := by
    obtain ⟨ad, o, hA, ho, _, _⟩ := hp; exact ⟨ad, hA, lt_of_heap ho⟩
  subst hA
  have HAD := Lib.hid hadlt
  have HOK := Lib.hid (show ∀ zs ∈ [[x], us, vs], PartOk gs zs from parts_ok3 (.one gx) ⟨gy, by omega, by omega⟩ ⟨gz, by omega, by omega⟩)
  obtain ⟨WA, hWA⟩ : ∃ WA, WA = ((w.alloc (.cells #[.slice none 0 0] 28)).alloc (.cells #[.int .i64 0] 29)).alloc (.cells #[.nilIface] 31) := ⟨_, rfl⟩
  have hba : Below w.heap.size w WA := by rw [hWA]; exact (((Below.refl _ _).alloc (Nat.le_refl _) _).alloc (by simp) _).alloc (by simp; omega) _
  have b6 : Blk WA w.heap.size 28 #[.slice none 0 0] := by rw [hWA]; exact ((Blk.new w _ _).alloc _).alloc _
  have b7 : Blk WA (w.heap.size + 1) 29 #[.int .i64 0] := by
    rw [hWA]; have := (Blk.new (w.alloc (.cells #[.slice none 0 0] 28)) 29 #[.int .i64 0]).alloc (.cells #[.nilIface] 31); simpa using this
  have b8 : Blk WA (w.heap.size + 2) 31 #[.nilIface] := by
    rw [hWA]; have := Blk.new ((w.alloc (.cells #[.slice none 0 0] 28)).alloc (.cells #[.int .i64 0] 29)) 31 #[.nilIface]; simpa using this
  have hsa : WA.heap.size = w.heap.size + 3 := by rw [hWA]; simp
  have CS := Lib.hid (show Calls Tryd.prog 41 #[.string ⟨#[105, 102]⟩, .slice (some ad) 3 c] WA (ShP WA true) from by
    have hl : Lens WA (some ad) [1, n, n] := by have hq := (hp.new hba).lens; simpa [hus, hvs] using hq
    have hs := shape_if (c := c) (hL.below hba hLB) (by omega) hl (b0 := true) rfl rfl rfl rfl
    rwa [show (true && (((n : Int) == ((1 : Nat) : Int)) || ((n : Int) == ((8 : Nat) : Int))) && ((n : Int) == (n : Int))) = true from by rcases hn18 with rfl | rfl <;> rfl] at hs)
  have HPW := Lib.hid hp
  have HPA := Lib.hid (hp.new hba)
  have HGA := Lib.hid (h.new hba)
  have HBA := Lib.hid hba
  have HB678 := Lib.hid (And.intro b6 (And.intro b7 b8))
  have HWA := Lib.hid hWA
  have HSA := Lib.hid hsa
  have HNL := Lib.hid hn
  clear h hL hp hba b6 b7 b8 hWA hsa hn hadlt
  have hmf : ∀ (fn : Fn) (first cap : Array Value) (w : World), (Instr.makeFunc fn first cap).run Tryd.prog w = .ok (.func fn first cap) w := fun _ _ _ _ => rfl
  go_enter_defers Tryd.func17, Tryd.ntmps17
  go_wp2_with fail
  rw [← HWA.out]
  refine CS.out.mono ?_
  rintro e w1 ⟨rfl, hb⟩
  have HP1 := Lib.hid (HPA.out.new hb)
  have HG1 := Lib.hid (HGA.out.new hb)
  have HB1 := Lib.hid hb
  obtain ⟨ad', o, hA', _, _, hcell⟩ := HPA.out.new hb
  obtain rfl : ad = ad' := by injection hA'
  have HCL := Lib.hid hcell
  clear hb hcell hA'
  go_wp2_with fail
  go_loop [21] (fun iv => LcR 3 iv) (fun iv => 3 - (intOf iv).toNat)
  case atStart => exact ⟨0, by omega, rfl⟩
  case round =>
    obtain ⟨k0, hk, rfl⟩ := hrel
    by_cases hk2 : k0 < 3
    · obtain ⟨zs, hz⟩ : ∃ zs, [[x], us, vs][k0]? = some zs := ⟨_, List.getElem?_eq_getElem (by simpa using hk2)⟩
      have hzh := HOK.out zs (List.mem_of_getElem? hz)
      obtain ⟨Ai, ci, hci, hh⟩ := HCL.out k0 zs hz
      obtain ⟨adz, rfl⟩ := hh.form (by have := hzh.2.1; omega)
      have HH := Lib.hid hh
      have HZ := Lib.hid hzh
      obtain ⟨m, hm⟩ : ∃ m, zs.length = m := ⟨_, rfl⟩
      have hm1 : 1 ≤ m ∧ m ≤ 8 := by rw [← hm]; exact hzh.2
      obtain ⟨hm1, hm8⟩ := hm1
      rw [hm] at hci
      have HM := Lib.hid hm
      clear hz hh hzh hm
      go_wp2_with fail
      go_loop [27] (fun jv => LcR m jv) (fun jv => m - (intOf jv).toNat)
      case atStart => exact ⟨0, by omega, rfl⟩
      try case atStart => exact ⟨0, by omega, rfl⟩
      case round =>
        obtain ⟨j, hj, rfl⟩ := hrel
        by_cases hj8 : j < m
        · obtain ⟨x, hx⟩ : ∃ x, zs[j]? = some x := ⟨_, List.getElem?_eq_getElem (by rw [HM.out]; exact hj8)⟩
          have cx := HH.out.at_ hx
          have CX := Lib.hid (has_lit HG1.out (HZ.out.1 x (List.mem_of_getElem? hx)) (Nat.le_trans HNL.out (by omega)))
          clear hx
          go_wp2_with fail
          refine CX.out.mono ?_
          rintro e w' ⟨rfl, rfl⟩
          go_wp2_with fail
          go_round
          case rel => exact ⟨j + 1, by omega, by go_num⟩
          case measure => simp [intOf]; omega
        · obtain rfl : j = m := by omega
          go_wp2_with fail
          go_round
          case rel => exact ⟨k0 + 1, by omega, by go_num⟩
          case measure => simp [intOf]; omega
    · obtain rfl : k0 = 3 := by omega
      obtain ⟨A0, c0, h0, hh0⟩ := HCL.out 0 ([x]) rfl
      simp only [List.length_cons, List.length_nil] at h0 hh0
      obtain ⟨ae0, rfl⟩ := hh0.form (by omega)
      obtain ⟨A1, c1, h1, hh1⟩ := HCL.out 1 (us) rfl
      rw [hus] at h1 hh1
      obtain ⟨A2, c2, h2, hh2⟩ := HCL.out 2 (vs) rfl
      rw [hvs] at h2 hh2
      obtain ⟨b6, b7, b8⟩ := HB678.out
      have b6' := b6.below HB1.out (by rw [HSA.out]; omega)
      have b7' := b7.below HB1.out (by rw [HSA.out]; omega)
      have b8' := b8.below HB1.out (by rw [HSA.out]; omega)
      obtain ⟨W2, hW2⟩ : ∃ W2, W2 = (w1.alloc (.cells #[.pointer (some ⟨b, 0, none⟩)] 106)).drew := ⟨_, rfl⟩
      have b13 : Blk W2 w1.heap.size 106 #[.pointer (some ⟨b, 0, none⟩)] := by rw [hW2]; exact (Blk.new w1 _ _).drew
      have hb12 : Below w1.heap.size w1 W2 := by rw [hW2]; exact below_drewN ((Below.refl _ _).alloc (Nat.le_refl _) _) 1
      have hs1 := HB1.out.size
      have hsa := HSA.out
      have HBW2 := Lib.hid (show Below w.heap.size w W2 from HBA.out.trans ((HB1.out.trans (hb12.mono hs1)).mono (by omega)))
      have hbw2 := HBW2.out
      have HB678 := Lib.hid (And.intro (b6'.below hb12 b6'.lt) (And.intro (b7'.below hb12 b7'.lt) (b8'.below hb12 b8'.lt)))
      have hpw := HP1.out.new hb12
      have HAE0 := Lib.hid (show ae0.block < w.heap.size from by
        obtain ⟨ad2, o2, hA2, _, _, hcell2⟩ := HPW.out
        obtain rfl : ad = ad2 := by injection hA2
        obtain ⟨B0, d0, r1, r2⟩ := hcell2 0 _ rfl
        have r3 := (HBA.out.cell (World.block_lt_of_cell? _ _ r1)).trans r1
        have r4 := (HB1.out.cell (World.block_lt_of_cell? _ _ r3)).trans r3
        have r5 : some ae0 = B0 := by have := h0.symm.trans r4; simp only [Option.some.injEq, Value.slice.injEq] at this; exact this.1
        subst r5
        exact World.block_lt_of_cell? _ _ (r2.at_ (k := 0) rfl))
      have HS := Lib.hid (show ∀ w' : World, Chg (GT B) W2 w' → w'.cell? ⟨w1.heap.size, 0, none⟩ = some (.pointer (some ⟨b, 0, none⟩)) ∧ w'.cell? ad = some (.slice (some ae0) 1 c0) ∧ w'.cell? ⟨ad.block, ad.off + 1, none⟩ = some (.slice A1 n c1) ∧ w'.cell? ⟨ad.block, ad.off + 2, none⟩ = some (.slice A2 n c2) ∧ w'.cell? ae0 = some (.int .i64 (x : Nat)) from fun w' hc => ⟨(box_gt b13 hc).cell 0, (hpw.same hc 0).trans ((hb12.cell (World.block_lt_of_cell? _ _ h0)).trans h0), (hpw.same hc 1).trans ((hb12.cell (World.block_lt_of_cell? _ _ h1)).trans h1), (hpw.same hc 2).trans ((hb12.cell (World.block_lt_of_cell? _ _ h2)).trans h2), ((hh0.new hb12).gt hc).at_ (k := 0) rfl⟩)
      have HKS := Lib.hid (show ∀ w' w'' : World, (∀ p : Addr, p.block < w.heap.size ∨ w.heap.size + 3 ≤ p.block → w''.cell? p = w'.cell? p) → (w'.cell? ⟨w1.heap.size, 0, none⟩ = some (.pointer (some ⟨b, 0, none⟩)) ∧ w'.cell? ad = some (.slice (some ae0) 1 c0) ∧ w'.cell? ⟨ad.block, ad.off + 1, none⟩ = some (.slice A1 n c1) ∧ w'.cell? ⟨ad.block, ad.off + 2, none⟩ = some (.slice A2 n c2) ∧ w'.cell? ae0 = some (.int .i64 (x : Nat))) → w''.cell? ⟨w1.heap.size, 0, none⟩ = some (.pointer (some ⟨b, 0, none⟩)) ∧ w''.cell? ad = some (.slice (some ae0) 1 c0) ∧ w''.cell? ⟨ad.block, ad.off + 1, none⟩ = some (.slice A1 n c1) ∧ w''.cell? ⟨ad.block, ad.off + 2, none⟩ = some (.slice A2 n c2) ∧ w''.cell? ae0 = some (.int .i64 (x : Nat)) from fun w' w'' hk h => by
        obtain ⟨q0, q1, q2, q3, q4⟩ := h
        exact ⟨(hk _ (.inr (by show w.heap.size + 3 ≤ w1.heap.size; omega))).trans q0, (hk _ (.inl (by show ad.block < w.heap.size; exact HAD.out))).trans q1, (hk _ (.inl (by show ad.block < w.heap.size; exact HAD.out))).trans q2, (hk _ (.inl (by show ad.block < w.heap.size; exact HAD.out))).trans q3, (hk _ (.inl HAE0.out)).trans q4⟩)
      have hg2 := HG1.out.new hb12
      have hh02 := hh0.new hb12
      have hh12 := hh1.new hb12
      have hh22 := hh2.new hb12
      have CI := Lib.hid (word_any (c1 := c1) (c2 := c2) hg2 gx hh12 hh22 gy gz (by have := HNL.out; omega) (by omega))
      have HBX := Lib.hid b13
      have HG2 := Lib.hid hg2
      have HS1 := Lib.hid (And.intro hs1 hsa)
      have HW2 := Lib.hid hW2
      clear hpw hg2 hs1 hsa b6 b7 b8 b6' b7' b8' hW2 b13 hb12 hbw2 h0 hh0 hh02 h1 hh1 hh12 h2 hh2 hh22
      go_wp2_with fail
      refine wp_region_seq (S := fun w' => w'.cell? ⟨w1.heap.size, 0, none⟩ = some (.pointer (some ⟨b, 0, none⟩)) ∧ w'.cell? ad = some (.slice (some ae0) 1 c0) ∧ w'.cell? ⟨ad.block, ad.off + 1, none⟩ = some (.slice A1 n c1) ∧ w'.cell? ⟨ad.block, ad.off + 2, none⟩ = some (.slice A2 n c2) ∧ w'.cell? ae0 = some (.int .i64 (x : Nat))) [(0, false), (1, false), (2, false), (3, false), (4, false), (5, false), (6, false), (7, false), (8, false), (9, false), (10, false), (11, false), (12, true), (13, true), (14, true), (15, true)] (by kernel_rfl) (by kernel_rfl) (by kernel_rfl) (by rw [← HW2.out]; exact HS.out _ (Chg.refl _ _)) ?_
      rw [← HW2.out]
      iterate 12 (refine seq_take _ _ rfl (by kernel_rfl) (fun wv hv => by obtain ⟨hv1, hv2, hv3, hv4, hv5⟩ := hv; go_simp; try with_reducible rfl) ?_; simp only [Act.put, List.getElem_toArray, List.getElem_cons_zero, List.getElem_cons_succ, List.setIfInBounds_toArray, List.set_cons_zero, List.set_cons_succ])
      refine seq_act _ rfl (fun K hK => ?_)
      go_simp
      refine CI.out.mono ?_
      rintro e w3 ⟨A3, c3, gs3, l3, rfl, h1, h2, h3, h4⟩
      have HGX := Lib.hid h1
      have HCX := Lib.hid ((Chg.of_new (S := GT B) HBW2.out).trans h2)
      have HOX := Lib.hid h3
      have HM := Lib.hid h4
      have HSX := Lib.hid (HS.out _ h2)
      have HOB := Lib.hid (show w.heap.size + 3 ≤ W2.heap.size from by have := HB678.out.2.2.lt; omega)
      have HB3 := Lib.hid (show Blk w3 w.heap.size 28 #[.slice none 0 0] ∧ Blk w3 (w.heap.size + 1) 29 #[.int .i64 0] ∧ Blk w3 (w.heap.size + 2) 31 #[.nilIface] from
        ⟨HB678.out.1.chg h2 fun hs => by rcases hs.2 with e | e | e <;> simp [elemOf] at e, HB678.out.2.1.chg h2 fun hs => by rcases hs.2 with e | e | e <;> simp [elemOf] at e, HB678.out.2.2.chg h2 fun hs => by rcases hs.2 with e | e | e <;> simp [elemOf] at e⟩)
      clear h1 h2 h3 h4
      go_simp
      refine hK _ _ (HSX.out) ?_
      clear hK K
      obtain ⟨W7, hW7⟩ : ∃ W7, W7 = w3.setCell ⟨w.heap.size, 0, none⟩ (.slice A3 n c3) := ⟨_, rfl⟩
      obtain ⟨W8, hW8⟩ : ∃ W8, W8 = W7.setCell ⟨w.heap.size + 1, 0, none⟩ (.int .i64 0) := ⟨_, rfl⟩
      obtain ⟨W9, hW9⟩ : ∃ W9, W9 = W8.setCell ⟨w.heap.size + 2, 0, none⟩ .nilIface := ⟨_, rfl⟩
      have ht := tail3 HB3.out.1 HB3.out.2.1 HB3.out.2.2 hW7 hW8 hW9
      have HT := Lib.hid ht
      have cc6 := ht.c6
      have ff6 := ht.f6
      have cc7 := ht.c7
      have ff7 := ht.f7
      have cc8 := ht.c8
      have ff8 := ht.f8
      have HW7 := Lib.hid hW7
      have HW8 := Lib.hid hW8
      have HW9 := Lib.hid hW9
      clear hW7 hW8 hW9 ht
      refine seq_act _ rfl (fun K hK => ?_)
      go_simp
      refine hK _ _ ((by rw [← HW7.out]; exact HKS.out _ _ HT.out.k7 HSX.out)) ?_
      clear hK K
      try simp only [Act.put, List.getElem_toArray, List.getElem_cons_zero, List.getElem_cons_succ, List.setIfInBounds_toArray, List.set_cons_zero, List.set_cons_succ]
      refine seq_act _ rfl (fun K hK => ?_)
      go_simp
      refine hK _ _ ((by rw [← HW7.out, ← HW8.out]; exact HKS.out _ _ HT.out.k8 HSX.out)) ?_
      clear hK K
      try simp only [Act.put, List.getElem_toArray, List.getElem_cons_zero, List.getElem_cons_succ, List.setIfInBounds_toArray, List.set_cons_zero, List.set_cons_succ]
      refine seq_act _ rfl (fun K hK => ?_)
      go_simp
      refine hK _ _ ((by rw [← HW7.out, ← HW8.out, ← HW9.out]; exact HKS.out _ _ HT.out.k9 HSX.out)) ?_
      clear hK K
      try simp only [Act.put, List.getElem_toArray, List.getElem_cons_zero, List.getElem_cons_succ, List.setIfInBounds_toArray, List.set_cons_zero, List.set_cons_succ]
      refine seq_nil ?_
      rw [← HW7.out, ← HW8.out, ← HW9.out]
      clear cc6 ff6 cc7 ff7 cc8 ff8
      go_wp2_with fail
      refine leaves_cons (f := 42) (args := #[.pointer (some ⟨w.heap.size, 0, none⟩), .pointer (some ⟨w.heap.size + 1, 0, none⟩), .pointer (some ⟨w.heap.size + 2, 0, none⟩)]) (by simp) (by simp [go_sem]) ?_
      refine (of_idle _ _ _ _).mono ?_
      rintro e u' w'' ⟨rfl, rfl, rfl⟩
      have x6 := HT.out.e6.cell 0
      have x7 := HT.out.e7.cell 0
      have x8 := HT.out.e8.cell 0
      have HKEY := Lib.hid (of_key HT.out HGX.out HCX.out HOX.out (by have := HBW2.out.size; have := HB3.out.2.2.lt; have := HOB.out; omega) HM.out)
      simp [Leaves, settle, results, Tryd.results17, go_sem, x6, x7, x8]
      exact HKEY.out
end Go.Proofs.YtmbjhpgemphmmaaDoor
namespace Go.Proofs.YtmbjhpgemphmmaaDoor
open Go.RowKit
attribute [local irreducible] wpSeq wpStill
set_option maxRecDepth 100000 in
set_option maxHeartbeats 4000000 in
theorem of_eq {w : World} {B b LB : Nat} {gs : List Gm.Gate} (h : GA w B b gs) (hL : Lvls w LB) (hLB : LB ≤ w.heap.size) {A : Option Addr} {c : Nat} {n : Nat} {xs ys : List Nat} (hxs : xs.length = n) (hys : ys.length = n) (hn18 : n = 1 ∨ n = 8) (gx : AllHas gs xs) (gy : AllHas gs ys) (hp : PartsAt w B A [xs, ys]) (hn : gs.length ≤ 90000) :
    Calls Tryd.prog 17 #[.pointer (some ⟨b, 0, none⟩), .string ⟨#[61]⟩, .slice A 2 c] w (OfP w B b gs (4 * n) (1) (fun inp => [Wp.sameB (evs inp gs xs) (evs inp gs ys)]) (fun _ => false)) := by
  obtain ⟨ad, hA, hadlt⟩ : ∃ ad, A = some ad ∧ ad.block < w.heap.size := by
    obtain ⟨ad, o, hA, ho, _, _⟩ := hp; exact ⟨ad, hA, lt_of_heap ho⟩
  subst hA
  have HAD := Lib.hid hadlt
  have HOK := Lib.hid (show ∀ zs ∈ [xs, ys], PartOk gs zs from parts_ok2 ⟨gx, by omega, by omega⟩ ⟨gy, by omega, by omega⟩)
  obtain ⟨WA, hWA⟩ : ∃ WA, WA = ((w.alloc (.cells #[.slice none 0 0] 28)).alloc (.cells #[.int .i64 0] 29)).alloc (.cells #[.nilIface] 31) := ⟨_, rfl⟩
  have hba : Below w.heap.size w WA := by rw [hWA]; exact (((Below.refl _ _).alloc (Nat.le_refl _) _).alloc (by simp) _).alloc (by simp; omega) _
  have b6 : Blk WA w.heap.size 28 #[.slice none 0 0] := by rw [hWA]; exact ((Blk.new w _ _).alloc _).alloc _
  have b7 : Blk WA (w.heap.size + 1) 29 #[.int .i64 0] := by
    rw [hWA]; have := (Blk.new (w.alloc (.cells #[.slice none 0 0] 28)) 29 #[.int .i64 0]).alloc (.cells #[.nilIface] 31); simpa using this
  have b8 : Blk WA (w.heap.size + 2) 31 #[.nilIface] := by
    rw [hWA]; have := Blk.new ((w.alloc (.cells #[.slice none 0 0] 28)).alloc (.cells #[.int .i64 0] 29)) 31 #[.nilIface]; simpa using this
  have hsa : WA.heap.size = w.heap.size + 3 := by rw [hWA]; simp
  have CS := Lib.hid (show Calls Tryd.prog 41 #[.string ⟨#[61]⟩, .slice (some ad) 2 c] WA (ShP WA true) from by
    have hl : Lens WA (some ad) [n, n] := by have hq := (hp.new hba).lens; simpa [hxs, hys] using hq
    have hs := shape_eq (c := c) (hL.below hba hLB) (by omega) hl rfl rfl rfl
    rwa [show ((((n : Int) == ((1 : Nat) : Int)) || ((n : Int) == ((8 : Nat) : Int))) && ((n : Int) == (n : Int))) = true from by rcases hn18 with rfl | rfl <;> rfl] at hs)
  have HPW := Lib.hid hp
  have HPA := Lib.hid (hp.new hba)
  have HGA := Lib.hid (h.new hba)
  have HBA := Lib.hid hba
  have HB678 := Lib.hid (And.intro b6 (And.intro b7 b8))
  have HWA := Lib.hid hWA
  have HSA := Lib.hid hsa
  have HNL := Lib.hid hn
  clear h hL hp hba b6 b7 b8 hWA hsa hn hadlt
  have hmf : ∀ (fn : Fn) (first cap : Array Value) (w : World), (Instr.makeFunc fn first cap).run Tryd.prog w = .ok (.func fn first cap) w := fun _ _ _ _ => rfl
  go_enter_defers Tryd.func17, Tryd.ntmps17
  go_wp2_with fail
  rw [← HWA.out]
  refine CS.out.mono ?_
  rintro e w1 ⟨rfl, hb⟩
  have HP1 := Lib.hid (HPA.out.new hb)
  have HG1 := Lib.hid (HGA.out.new hb)
  have HB1 := Lib.hid hb
  obtain ⟨ad', o, hA', _, _, hcell⟩ := HPA.out.new hb
  obtain rfl : ad = ad' := by injection hA'
  have HCL := Lib.hid hcell
  clear hb hcell hA'
  go_wp2_with fail
  go_loop [21] (fun iv => LcR 2 iv) (fun iv => 2 - (intOf iv).toNat)
  case atStart => exact ⟨0, by omega, rfl⟩
  case round =>
    obtain ⟨k0, hk, rfl⟩ := hrel
    by_cases hk2 : k0 < 2
    · obtain ⟨zs, hz⟩ : ∃ zs, [xs, ys][k0]? = some zs := ⟨_, List.getElem?_eq_getElem (by simpa using hk2)⟩
      have hzh := HOK.out zs (List.mem_of_getElem? hz)
      obtain ⟨Ai, ci, hci, hh⟩ := HCL.out k0 zs hz
      obtain ⟨adz, rfl⟩ := hh.form (by have := hzh.2.1; omega)
      have HH := Lib.hid hh
      have HZ := Lib.hid hzh
      obtain ⟨m, hm⟩ : ∃ m, zs.length = m := ⟨_, rfl⟩
      have hm1 : 1 ≤ m ∧ m ≤ 8 := by rw [← hm]; exact hzh.2
      obtain ⟨hm1, hm8⟩ := hm1
      rw [hm] at hci
      have HM := Lib.hid hm
      clear hz hh hzh hm
      go_wp2_with fail
      go_loop [27] (fun jv => LcR m jv) (fun jv => m - (intOf jv).toNat)
      case atStart => exact ⟨0, by omega, rfl⟩
      try case atStart => exact ⟨0, by omega, rfl⟩
      case round =>
        obtain ⟨j, hj, rfl⟩ := hrel
        by_cases hj8 : j < m
        · obtain ⟨x, hx⟩ : ∃ x, zs[j]? = some x := ⟨_, List.getElem?_eq_getElem (by rw [HM.out]; exact hj8)⟩
          have cx := HH.out.at_ hx
          have CX := Lib.hid (has_lit HG1.out (HZ.out.1 x (List.mem_of_getElem? hx)) (Nat.le_trans HNL.out (by omega)))
          clear hx
          go_wp2_with fail
          refine CX.out.mono ?_
          rintro e w' ⟨rfl, rfl⟩
          go_wp2_with fail
          go_round
          case rel => exact ⟨j + 1, by omega, by go_num⟩
          case measure => simp [intOf]; omega
        · obtain rfl : j = m := by omega
          go_wp2_with fail
          go_round
          case rel => exact ⟨k0 + 1, by omega, by go_num⟩
          case measure => simp [intOf]; omega
    · obtain rfl : k0 = 2 := by omega
      obtain ⟨A0, c0, h0, hh0⟩ := HCL.out 0 (xs) rfl
      rw [hxs] at h0 hh0
      obtain ⟨A1, c1, h1, hh1⟩ := HCL.out 1 (ys) rfl
      rw [hys] at h1 hh1
      obtain ⟨b6, b7, b8⟩ := HB678.out
      have b6' := b6.below HB1.out (by rw [HSA.out]; omega)
      have b7' := b7.below HB1.out (by rw [HSA.out]; omega)
      have b8' := b8.below HB1.out (by rw [HSA.out]; omega)
      obtain ⟨W2, hW2⟩ : ∃ W2, W2 = (w1.alloc (.cells #[.pointer (some ⟨b, 0, none⟩)] 106)).drew := ⟨_, rfl⟩
      have b13 : Blk W2 w1.heap.size 106 #[.pointer (some ⟨b, 0, none⟩)] := by rw [hW2]; exact (Blk.new w1 _ _).drew
      have hb12 : Below w1.heap.size w1 W2 := by rw [hW2]; exact below_drewN ((Below.refl _ _).alloc (Nat.le_refl _) _) 1
      have hs1 := HB1.out.size
      have hsa := HSA.out
      have HBW2 := Lib.hid (show Below w.heap.size w W2 from HBA.out.trans ((HB1.out.trans (hb12.mono hs1)).mono (by omega)))
      have hbw2 := HBW2.out
      have HB678 := Lib.hid (And.intro (b6'.below hb12 b6'.lt) (And.intro (b7'.below hb12 b7'.lt) (b8'.below hb12 b8'.lt)))
      have hpw := HP1.out.new hb12
      have HS := Lib.hid (show ∀ w' : World, Chg (GT B) W2 w' → w'.cell? ⟨w1.heap.size, 0, none⟩ = some (.pointer (some ⟨b, 0, none⟩)) ∧ w'.cell? ad = some (.slice A0 n c0) ∧ w'.cell? ⟨ad.block, ad.off + 1, none⟩ = some (.slice A1 n c1) from fun w' hc => ⟨(box_gt b13 hc).cell 0, (hpw.same hc 0).trans ((hb12.cell (World.block_lt_of_cell? _ _ h0)).trans h0), (hpw.same hc 1).trans ((hb12.cell (World.block_lt_of_cell? _ _ h1)).trans h1)⟩)
      have HKS := Lib.hid (show ∀ w' w'' : World, (∀ p : Addr, p.block < w.heap.size ∨ w.heap.size + 3 ≤ p.block → w''.cell? p = w'.cell? p) → (w'.cell? ⟨w1.heap.size, 0, none⟩ = some (.pointer (some ⟨b, 0, none⟩)) ∧ w'.cell? ad = some (.slice A0 n c0) ∧ w'.cell? ⟨ad.block, ad.off + 1, none⟩ = some (.slice A1 n c1)) → w''.cell? ⟨w1.heap.size, 0, none⟩ = some (.pointer (some ⟨b, 0, none⟩)) ∧ w''.cell? ad = some (.slice A0 n c0) ∧ w''.cell? ⟨ad.block, ad.off + 1, none⟩ = some (.slice A1 n c1) from fun w' w'' hk h => by
        obtain ⟨q0, q1, q2⟩ := h
        exact ⟨(hk _ (.inr (by show w.heap.size + 3 ≤ w1.heap.size; omega))).trans q0, (hk _ (.inl (by show ad.block < w.heap.size; exact HAD.out))).trans q1, (hk _ (.inl (by show ad.block < w.heap.size; exact HAD.out))).trans q2⟩)
      have hg2 := HG1.out.new hb12
      have hh02 := hh0.new hb12
      have hh12 := hh1.new hb12
      have CI := Lib.hid (same_any (c1 := c0) (c2 := c1) hg2 hh02 hh12 gx gy (by have := HNL.out; omega) (by omega))
      have HBX := Lib.hid b13
      have HG2 := Lib.hid hg2
      have HS1 := Lib.hid (And.intro hs1 hsa)
      have HW2 := Lib.hid hW2
      clear hpw hg2 hs1 hsa b6 b7 b8 b6' b7' b8' hW2 b13 hb12 hbw2 h0 hh0 hh02 h1 hh1 hh12
      go_wp2_with fail
      refine wp_region_seq (S := fun w' => w'.cell? ⟨w1.heap.size, 0, none⟩ = some (.pointer (some ⟨b, 0, none⟩)) ∧ w'.cell? ad = some (.slice A0 n c0) ∧ w'.cell? ⟨ad.block, ad.off + 1, none⟩ = some (.slice A1 n c1)) [(0, false), (1, false), (2, false), (3, false), (4, false), (5, false), (6, false), (7, true), (8, true), (9, true), (10, true), (11, true)] (by kernel_rfl) (by kernel_rfl) (by kernel_rfl) (by rw [← HW2.out]; exact HS.out _ (Chg.refl _ _)) ?_
      rw [← HW2.out]
      iterate 7 (refine seq_take _ _ rfl (by kernel_rfl) (fun wv hv => by obtain ⟨hv1, hv2, hv3⟩ := hv; go_simp; try with_reducible rfl) ?_; simp only [Act.put, List.getElem_toArray, List.getElem_cons_zero, List.getElem_cons_succ, List.setIfInBounds_toArray, List.set_cons_zero, List.set_cons_succ])
      refine seq_act _ rfl (fun K hK => ?_)
      go_simp
      refine CI.out.mono ?_
      rintro e w3 ⟨gs3, l3, rfl, h1, h2, h4⟩
      have HC3 := Lib.hid h2
      have HS3 := Lib.hid (HS.out _ h2)
      go_simp
      refine hK _ _ (HS3.out) ?_
      clear hK K
      obtain ⟨W4, hW4⟩ : ∃ W4, W4 = w3.alloc (.cells #[.int .i64 (l3 : Nat)] 29) := ⟨_, rfl⟩
      have HGX := Lib.hid (show GA W4 B b gs3 by rw [hW4]; exact h1.alloc1 _)
      have h24 : Chg (GT B) W2 W4 := by rw [hW4]; exact h2.alloc _
      have HCX := Lib.hid ((Chg.of_new (S := GT B) HBW2.out).trans h24)
      have HOX := Lib.hid (show W4.ownsRow w3.heap.size 29 1 (.slice (some ⟨w3.heap.size, 0, none⟩) 1 1) 1 (natVals [l3]) by rw [hW4]; exact own_one w3 _)
      have HM := Lib.hid (h4.one)
      have HSX := Lib.hid (HS.out _ h24)
      have HOB := Lib.hid (show w.heap.size + 3 ≤ w3.heap.size from by have := HB678.out.2.2.lt; have := h2.size; omega)
      have HB3 := Lib.hid (show Blk W4 w.heap.size 28 #[.slice none 0 0] ∧ Blk W4 (w.heap.size + 1) 29 #[.int .i64 0] ∧ Blk W4 (w.heap.size + 2) 31 #[.nilIface] from
        ⟨HB678.out.1.chg h24 fun hs => by rcases hs.2 with e | e | e <;> simp [elemOf] at e, HB678.out.2.1.chg h24 fun hs => by rcases hs.2 with e | e | e <;> simp [elemOf] at e, HB678.out.2.2.chg h24 fun hs => by rcases hs.2 with e | e | e <;> simp [elemOf] at e⟩)
      have HW4 := Lib.hid hW4
      clear h1 h2 h4 h24 hW4
      refine seq_act _ rfl (fun K hK => ?_)
      go_simp
      go_simp
      refine hK _ _ ((by rw [← HW4.out]; exact HSX.out)) ?_
      clear hK K
      rw [← HW4.out]
      obtain ⟨W7, hW7⟩ : ∃ W7, W7 = W4.setCell ⟨w.heap.size, 0, none⟩ (.slice (some ⟨w3.heap.size, 0, none⟩) 1 1) := ⟨_, rfl⟩
      obtain ⟨W8, hW8⟩ : ∃ W8, W8 = W7.setCell ⟨w.heap.size + 1, 0, none⟩ (.int .i64 0) := ⟨_, rfl⟩
      obtain ⟨W9, hW9⟩ : ∃ W9, W9 = W8.setCell ⟨w.heap.size + 2, 0, none⟩ .nilIface := ⟨_, rfl⟩
      have ht := tail3 HB3.out.1 HB3.out.2.1 HB3.out.2.2 hW7 hW8 hW9
      have HT := Lib.hid ht
      have cc6 := ht.c6
      have ff6 := ht.f6
      have cc7 := ht.c7
      have ff7 := ht.f7
      have cc8 := ht.c8
      have ff8 := ht.f8
      have HW7 := Lib.hid hW7
      have HW8 := Lib.hid hW8
      have HW9 := Lib.hid hW9
      clear hW7 hW8 hW9 ht
      refine seq_act _ rfl (fun K hK => ?_)
      go_simp
      refine hK _ _ ((by rw [← HW7.out]; exact HKS.out _ _ HT.out.k7 HSX.out)) ?_
      clear hK K
      try simp only [Act.put, List.getElem_toArray, List.getElem_cons_zero, List.getElem_cons_succ, List.setIfInBounds_toArray, List.set_cons_zero, List.set_cons_succ]
      refine seq_act _ rfl (fun K hK => ?_)
      go_simp
      refine hK _ _ ((by rw [← HW7.out, ← HW8.out]; exact HKS.out _ _ HT.out.k8 HSX.out)) ?_
      clear hK K
      try simp only [Act.put, List.getElem_toArray, List.getElem_cons_zero, List.getElem_cons_succ, List.setIfInBounds_toArray, List.set_cons_zero, List.set_cons_succ]
      refine seq_act _ rfl (fun K hK => ?_)
      go_simp
      refine hK _ _ ((by rw [← HW7.out, ← HW8.out, ← HW9.out]; exact HKS.out _ _ HT.out.k9 HSX.out)) ?_
      clear hK K
      try simp only [Act.put, List.getElem_toArray, List.getElem_cons_zero, List.getElem_cons_succ, List.setIfInBounds_toArray, List.set_cons_zero, List.set_cons_succ]
      refine seq_nil ?_
      rw [← HW7.out, ← HW8.out, ← HW9.out]
      clear cc6 ff6 cc7 ff7 cc8 ff8
      go_wp2_with fail
      refine leaves_cons (f := 42) (args := #[.pointer (some ⟨w.heap.size, 0, none⟩), .pointer (some ⟨w.heap.size + 1, 0, none⟩), .pointer (some ⟨w.heap.size + 2, 0, none⟩)]) (by simp) (by simp [go_sem]) ?_
      refine (of_idle _ _ _ _).mono ?_
      rintro e u' w'' ⟨rfl, rfl, rfl⟩
      have x6 := HT.out.e6.cell 0
      have x7 := HT.out.e7.cell 0
      have x8 := HT.out.e8.cell 0
      have HKEY := Lib.hid (of_key HT.out HGX.out HCX.out HOX.out (by have := HBW2.out.size; have := HB3.out.2.2.lt; have := HOB.out; omega) HM.out)
      simp [Leaves, settle, results, Tryd.results17, go_sem, x6, x7, x8]
      exact HKEY.out
set_option maxRecDepth 100000 in
set_option maxHeartbeats 4000000 in
theorem of_ne {w : World} {B b LB : Nat} {gs : List Gm.Gate} (h : GA w B b gs) (hL : Lvls w LB) (hLB : LB ≤ w.heap.size) {A : Option Addr} {c : Nat} {n : Nat} {xs ys : List Nat} (hxs : xs.length = n) (hys : ys.length = n) (hn18 : n = 1 ∨ n = 8) (gx : AllHas gs xs) (gy : AllHas gs ys) (hp : PartsAt w B A [xs, ys]) (hn : gs.length ≤ 90000) :
    Calls Tryd.prog 17 #[.pointer (some ⟨b, 0, none⟩), .string ⟨#[60, 62]⟩, .slice A 2 c] w (OfP w B b gs (4 * n) (1) (fun inp => [!Wp.sameB (evs inp gs xs) (evs inp gs ys)]) (fun _ => false)) := by
  obtain ⟨ad, hA, hadlt⟩ : ∃ ad, A = some ad ∧ ad.block < w.heap.size := by
    obtain ⟨ad, o, hA, ho, _, _⟩ := hp; exact ⟨ad, hA, lt_of_heap ho⟩
  subst hA
  have HAD := Lib.hid hadlt
  have HOK := Lib.hid (show ∀ zs ∈ [xs, ys], PartOk gs zs from parts_ok2 ⟨gx, by omega, by omega⟩ ⟨gy, by omega, by omega⟩)
  obtain ⟨WA, hWA⟩ : ∃ WA, WA = ((w.alloc (.cells #[.slice none 0 0] 28)).alloc (.cells #[.int .i64 0] 29)).alloc (.cells #[.nilIface] 31) := ⟨_, rfl⟩
  have hba : Below w.heap.size w WA := by rw [hWA]; exact (((Below.refl _ _).alloc (Nat.le_refl _) _).alloc (by simp) _).alloc (by simp; omega) _
  have b6 : Blk WA w.heap.size 28 #[.slice none 0 0] := by rw [hWA]; exact ((Blk.new w _ _).alloc _).alloc _
  have b7 : Blk WA (w.heap.size + 1) 29 #[.int .i64 0] := by
    rw [hWA]; have := (Blk.new (w.alloc (.cells #[.slice none 0 0] 28)) 29 #[.int .i64 0]).alloc (.cells #[.nilIface] 31); simpa using this
  have b8 : Blk WA (w.heap.size + 2) 31 #[.nilIface] := by
    rw [hWA]; have := Blk.new ((w.alloc (.cells #[.slice none 0 0] 28)).alloc (.cells #[.int .i64 0] 29)) 31 #[.nilIface]; simpa using this
  have hsa : WA.heap.size = w.heap.size + 3 := by rw [hWA]; simp
  have CS := Lib.hid (show Calls Tryd.prog 41 #[.string ⟨#[60, 62]⟩, .slice (some ad) 2 c] WA (ShP WA true) from by
    have hl : Lens WA (some ad) [n, n] := by have hq := (hp.new hba).lens; simpa [hxs, hys] using hq
    have hs := shape_ne (c := c) (hL.below hba hLB) (by omega) hl rfl rfl rfl
    rwa [show ((((n : Int) == ((1 : Nat) : Int)) || ((n : Int) == ((8 : Nat) : Int))) && ((n : Int) == (n : Int))) = true from by rcases hn18 with rfl | rfl <;> rfl] at hs)
  have HPW := Lib.hid hp
  have HPA := Lib.hid (hp.new hba)
  have HGA := Lib.hid (h.new hba)
  have HBA := Lib.hid hba
  have HB678 := Lib.hid (And.intro b6 (And.intro b7 b8))
  have HWA := Lib.hid hWA
  have HSA := Lib.hid hsa
  have HNL := Lib.hid hn
  clear h hL hp hba b6 b7 b8 hWA hsa hn hadlt
  have hmf : ∀ (fn : Fn) (first cap : Array Value) (w : World), (Instr.makeFunc fn first cap).run Tryd.prog w = .ok (.func fn first cap) w := fun _ _ _ _ => rfl
  go_enter_defers Tryd.func17, Tryd.ntmps17
  go_wp2_with fail
  rw [← HWA.out]
  refine CS.out.mono ?_
  rintro e w1 ⟨rfl, hb⟩
  have HP1 := Lib.hid (HPA.out.new hb)
  have HG1 := Lib.hid (HGA.out.new hb)
  have HB1 := Lib.hid hb
  obtain ⟨ad', o, hA', _, _, hcell⟩ := HPA.out.new hb
  obtain rfl : ad = ad' := by injection hA'
  have HCL := Lib.hid hcell
  clear hb hcell hA'
  go_wp2_with fail
  go_loop [21] (fun iv => LcR 2 iv) (fun iv => 2 - (intOf iv).toNat)
  case atStart => exact ⟨0, by omega, rfl⟩
  case round =>
    obtain ⟨k0, hk, rfl⟩ := hrel
    by_cases hk2 : k0 < 2
    · obtain ⟨zs, hz⟩ : ∃ zs, [xs, ys][k0]? = some zs := ⟨_, List.getElem?_eq_getElem (by simpa using hk2)⟩
      have hzh := HOK.out zs (List.mem_of_getElem? hz)
      obtain ⟨Ai, ci, hci, hh⟩ := HCL.out k0 zs hz
      obtain ⟨adz, rfl⟩ := hh.form (by have := hzh.2.1; omega)
      have HH := Lib.hid hh
      have HZ := Lib.hid hzh
      obtain ⟨m, hm⟩ : ∃ m, zs.length = m := ⟨_, rfl⟩
      have hm1 : 1 ≤ m ∧ m ≤ 8 := by rw [← hm]; exact hzh.2
      obtain ⟨hm1, hm8⟩ := hm1
      rw [hm] at hci
      have HM := Lib.hid hm
      clear hz hh hzh hm
      go_wp2_with fail
      go_loop [27] (fun jv => LcR m jv) (fun jv => m - (intOf jv).toNat)
      case atStart => exact ⟨0, by omega, rfl⟩
      try case atStart => exact ⟨0, by omega, rfl⟩
      case round =>
        obtain ⟨j, hj, rfl⟩ := hrel
        by_cases hj8 : j < m
        · obtain ⟨x, hx⟩ : ∃ x, zs[j]? = some x := ⟨_, List.getElem?_eq_getElem (by rw [HM.out]; exact hj8)⟩
          have cx := HH.out.at_ hx
          have CX := Lib.hid (has_lit HG1.out (HZ.out.1 x (List.mem_of_getElem? hx)) (Nat.le_trans HNL.out (by omega)))
          clear hx
          go_wp2_with fail
          refine CX.out.mono ?_
          rintro e w' ⟨rfl, rfl⟩
          go_wp2_with fail
          go_round
          case rel => exact ⟨j + 1, by omega, by go_num⟩
          case measure => simp [intOf]; omega
        · obtain rfl : j = m := by omega
          go_wp2_with fail
          go_round
          case rel => exact ⟨k0 + 1, by omega, by go_num⟩
          case measure => simp [intOf]; omega
    · obtain rfl : k0 = 2 := by omega
      obtain ⟨A0, c0, h0, hh0⟩ := HCL.out 0 (xs) rfl
      rw [hxs] at h0 hh0
      obtain ⟨A1, c1, h1, hh1⟩ := HCL.out 1 (ys) rfl
      rw [hys] at h1 hh1
      obtain ⟨b6, b7, b8⟩ := HB678.out
      have b6' := b6.below HB1.out (by rw [HSA.out]; omega)
      have b7' := b7.below HB1.out (by rw [HSA.out]; omega)
      have b8' := b8.below HB1.out (by rw [HSA.out]; omega)
      obtain ⟨W2, hW2⟩ : ∃ W2, W2 = (w1.alloc (.cells #[.pointer (some ⟨b, 0, none⟩)] 106)).drew := ⟨_, rfl⟩
      have b13 : Blk W2 w1.heap.size 106 #[.pointer (some ⟨b, 0, none⟩)] := by rw [hW2]; exact (Blk.new w1 _ _).drew
      have hb12 : Below w1.heap.size w1 W2 := by rw [hW2]; exact below_drewN ((Below.refl _ _).alloc (Nat.le_refl _) _) 1
      have hs1 := HB1.out.size
      have hsa := HSA.out
      have HBW2 := Lib.hid (show Below w.heap.size w W2 from HBA.out.trans ((HB1.out.trans (hb12.mono hs1)).mono (by omega)))
      have hbw2 := HBW2.out
      have HB678 := Lib.hid (And.intro (b6'.below hb12 b6'.lt) (And.intro (b7'.below hb12 b7'.lt) (b8'.below hb12 b8'.lt)))
      have hpw := HP1.out.new hb12
      have HS := Lib.hid (show ∀ w' : World, Chg (GT B) W2 w' → w'.cell? ⟨w1.heap.size, 0, none⟩ = some (.pointer (some ⟨b, 0, none⟩)) ∧ w'.cell? ad = some (.slice A0 n c0) ∧ w'.cell? ⟨ad.block, ad.off + 1, none⟩ = some (.slice A1 n c1) from fun w' hc => ⟨(box_gt b13 hc).cell 0, (hpw.same hc 0).trans ((hb12.cell (World.block_lt_of_cell? _ _ h0)).trans h0), (hpw.same hc 1).trans ((hb12.cell (World.block_lt_of_cell? _ _ h1)).trans h1)⟩)
      have HKS := Lib.hid (show ∀ w' w'' : World, (∀ p : Addr, p.block < w.heap.size ∨ w.heap.size + 3 ≤ p.block → w''.cell? p = w'.cell? p) → (w'.cell? ⟨w1.heap.size, 0, none⟩ = some (.pointer (some ⟨b, 0, none⟩)) ∧ w'.cell? ad = some (.slice A0 n c0) ∧ w'.cell? ⟨ad.block, ad.off + 1, none⟩ = some (.slice A1 n c1)) → w''.cell? ⟨w1.heap.size, 0, none⟩ = some (.pointer (some ⟨b, 0, none⟩)) ∧ w''.cell? ad = some (.slice A0 n c0) ∧ w''.cell? ⟨ad.block, ad.off + 1, none⟩ = some (.slice A1 n c1) from fun w' w'' hk h => by
        obtain ⟨q0, q1, q2⟩ := h
        exact ⟨(hk _ (.inr (by show w.heap.size + 3 ≤ w1.heap.size; omega))).trans q0, (hk _ (.inl (by show ad.block < w.heap.size; exact HAD.out))).trans q1, (hk _ (.inl (by show ad.block < w.heap.size; exact HAD.out))).trans q2⟩)
      have hg2 := HG1.out.new hb12
      have hh02 := hh0.new hb12
      have hh12 := hh1.new hb12
      have CI := Lib.hid (same_any (c1 := c0) (c2 := c1) hg2 hh02 hh12 gx gy (by have := HNL.out; omega) (by omega))
      have HBX := Lib.hid b13
      have HG2 := Lib.hid hg2
      have HS1 := Lib.hid (And.intro hs1 hsa)
      have HW2 := Lib.hid hW2
      clear hpw hg2 hs1 hsa b6 b7 b8 b6' b7' b8' hW2 b13 hb12 hbw2 h0 hh0 hh02 h1 hh1 hh12
      go_wp2_with fail
      refine wp_region_seq (S := fun w' => w'.cell? ⟨w1.heap.size, 0, none⟩ = some (.pointer (some ⟨b, 0, none⟩)) ∧ w'.cell? ad = some (.slice A0 n c0) ∧ w'.cell? ⟨ad.block, ad.off + 1, none⟩ = some (.slice A1 n c1)) [(0, false), (1, false), (2, false), (3, false), (4, false), (5, false), (6, false), (7, true), (8, true), (9, true), (10, true), (11, true), (12, true)] (by kernel_rfl) (by kernel_rfl) (by kernel_rfl) (by rw [← HW2.out]; exact HS.out _ (Chg.refl _ _)) ?_
      rw [← HW2.out]
      iterate 7 (refine seq_take _ _ rfl (by kernel_rfl) (fun wv hv => by obtain ⟨hv1, hv2, hv3⟩ := hv; go_simp; try with_reducible rfl) ?_; simp only [Act.put, List.getElem_toArray, List.getElem_cons_zero, List.getElem_cons_succ, List.setIfInBounds_toArray, List.set_cons_zero, List.set_cons_succ])
      refine seq_act _ rfl (fun K hK => ?_)
      go_simp
      refine CI.out.mono ?_
      rintro e w3 ⟨gs3, l3, rfl, h1, h2, h4⟩
      have HC3 := Lib.hid h2
      have HS3 := Lib.hid (HS.out _ h2)
      go_simp
      refine hK _ _ (HS3.out) ?_
      clear hK K
      have hl9 : l3 ≤ 1000000 := by have := h1.len; have := h4.has; unfold Gm.has at this; omega
      have CN := Lib.hid (not_any l3 w3 hl9)
      clear hl9
      refine seq_act _ rfl (fun K hK => ?_)
      go_simp
      refine CN.out.mono ?_
      rintro e w' ⟨rfl, rfl⟩
      go_simp
      refine hK _ _ (HS3.out) ?_
      clear hK K
      obtain ⟨W4, hW4⟩ : ∃ W4, W4 = w3.alloc (.cells #[.int .i64 (Gm.notL l3 : Nat)] 29) := ⟨_, rfl⟩
      have HGX := Lib.hid (show GA W4 B b gs3 by rw [hW4]; exact h1.alloc1 _)
      have h24 : Chg (GT B) W2 W4 := by rw [hW4]; exact h2.alloc _
      have HCX := Lib.hid ((Chg.of_new (S := GT B) HBW2.out).trans h24)
      have HOX := Lib.hid (show W4.ownsRow w3.heap.size 29 1 (.slice (some ⟨w3.heap.size, 0, none⟩) 1 1) 1 (natVals [Gm.notL l3]) by rw [hW4]; exact own_one w3 _)
      have HM := Lib.hid (h4.not_.one)
      have HSX := Lib.hid (HS.out _ h24)
      have HOB := Lib.hid (show w.heap.size + 3 ≤ w3.heap.size from by have := HB678.out.2.2.lt; have := h2.size; omega)
      have HB3 := Lib.hid (show Blk W4 w.heap.size 28 #[.slice none 0 0] ∧ Blk W4 (w.heap.size + 1) 29 #[.int .i64 0] ∧ Blk W4 (w.heap.size + 2) 31 #[.nilIface] from
        ⟨HB678.out.1.chg h24 fun hs => by rcases hs.2 with e | e | e <;> simp [elemOf] at e, HB678.out.2.1.chg h24 fun hs => by rcases hs.2 with e | e | e <;> simp [elemOf] at e, HB678.out.2.2.chg h24 fun hs => by rcases hs.2 with e | e | e <;> simp [elemOf] at e⟩)
      have HW4 := Lib.hid hW4
      clear h1 h2 h4 h24 hW4
      refine seq_act _ rfl (fun K hK => ?_)
      go_simp
      go_simp
      refine hK _ _ ((by rw [← HW4.out]; exact HSX.out)) ?_
      clear hK K
      rw [← HW4.out]
      obtain ⟨W7, hW7⟩ : ∃ W7, W7 = W4.setCell ⟨w.heap.size, 0, none⟩ (.slice (some ⟨w3.heap.size, 0, none⟩) 1 1) := ⟨_, rfl⟩
      obtain ⟨W8, hW8⟩ : ∃ W8, W8 = W7.setCell ⟨w.heap.size + 1, 0, none⟩ (.int .i64 0) := ⟨_, rfl⟩
      obtain ⟨W9, hW9⟩ : ∃ W9, W9 = W8.setCell ⟨w.heap.size + 2, 0, none⟩ .nilIface := ⟨_, rfl⟩
      have ht := tail3 HB3.out.1 HB3.out.2.1 HB3.out.2.2 hW7 hW8 hW9
      have HT := Lib.hid ht
      have cc6 := ht.c6
      have ff6 := ht.f6
      have cc7 := ht.c7
      have ff7 := ht.f7
      have cc8 := ht.c8
      have ff8 := ht.f8
      have HW7 := Lib.hid hW7
      have HW8 := Lib.hid hW8
      have HW9 := Lib.hid hW9
      clear hW7 hW8 hW9 ht
      refine seq_act _ rfl (fun K hK => ?_)
      go_simp
      refine hK _ _ ((by rw [← HW7.out]; exact HKS.out _ _ HT.out.k7 HSX.out)) ?_
      clear hK K
      try simp only [Act.put, List.getElem_toArray, List.getElem_cons_zero, List.getElem_cons_succ, List.setIfInBounds_toArray, List.set_cons_zero, List.set_cons_succ]
      refine seq_act _ rfl (fun K hK => ?_)
      go_simp
      refine hK _ _ ((by rw [← HW7.out, ← HW8.out]; exact HKS.out _ _ HT.out.k8 HSX.out)) ?_
      clear hK K
      try simp only [Act.put, List.getElem_toArray, List.getElem_cons_zero, List.getElem_cons_succ, List.setIfInBounds_toArray, List.set_cons_zero, List.set_cons_succ]
      refine seq_act _ rfl (fun K hK => ?_)
      go_simp
      refine hK _ _ ((by rw [← HW7.out, ← HW8.out, ← HW9.out]; exact HKS.out _ _ HT.out.k9 HSX.out)) ?_
      clear hK K
      try simp only [Act.put, List.getElem_toArray, List.getElem_cons_zero, List.getElem_cons_succ, List.setIfInBounds_toArray, List.set_cons_zero, List.set_cons_succ]
      refine seq_nil ?_
      rw [← HW7.out, ← HW8.out, ← HW9.out]
      clear cc6 ff6 cc7 ff7 cc8 ff8
      go_wp2_with fail
      refine leaves_cons (f := 42) (args := #[.pointer (some ⟨w.heap.size, 0, none⟩), .pointer (some ⟨w.heap.size + 1, 0, none⟩), .pointer (some ⟨w.heap.size + 2, 0, none⟩)]) (by simp) (by simp [go_sem]) ?_
      refine (of_idle _ _ _ _).mono ?_
      rintro e u' w'' ⟨rfl, rfl, rfl⟩
      have x6 := HT.out.e6.cell 0
      have x7 := HT.out.e7.cell 0
      have x8 := HT.out.e8.cell 0
      have HKEY := Lib.hid (of_key HT.out HGX.out HCX.out HOX.out (by have := HBW2.out.size; have := HB3.out.2.2.lt; have := HOB.out; omega) HM.out)
      simp [Leaves, settle, results, Tryd.results17, go_sem, x6, x7, x8]
      exact HKEY.out
end Go.Proofs.YtmbjhpgemphmmaaDoor
namespace Go.Proofs.YtmbjhpgemphmmaaDoor
open Go.RowKit
attribute [local irreducible] wpSeq wpStill
set_option maxRecDepth 100000 in
set_option maxHeartbeats 4000000 in
theorem of_and {w : World} {B b LB : Nat} {gs : List Gm.Gate} (h : GA w B b gs) (hL : Lvls w LB) (hLB : LB ≤ w.heap.size) {A : Option Addr} {c : Nat} {x y : Nat} (gx : Gm.has gs x) (gy : Gm.has gs y) (hp : PartsAt w B A [[x], [y]]) (hn : gs.length ≤ 90000) :
    Calls Tryd.prog 17 #[.pointer (some ⟨b, 0, none⟩), .string ⟨#[97, 110, 100]⟩, .slice A 2 c] w (OfP w B b gs (3) (1) (fun inp => [Gm.ev inp gs x && Gm.ev inp gs y]) (fun _ => false)) := by
  obtain ⟨ad, hA, hadlt⟩ : ∃ ad, A = some ad ∧ ad.block < w.heap.size := by
    obtain ⟨ad, o, hA, ho, _, _⟩ := hp; exact ⟨ad, hA, lt_of_heap ho⟩
  subst hA
  have HAD := Lib.hid hadlt
  have HOK := Lib.hid (show ∀ zs ∈ [[x], [y]], PartOk gs zs from parts_ok2 (.one gx) (.one gy))
  obtain ⟨WA, hWA⟩ : ∃ WA, WA = ((w.alloc (.cells #[.slice none 0 0] 28)).alloc (.cells #[.int .i64 0] 29)).alloc (.cells #[.nilIface] 31) := ⟨_, rfl⟩
  have hba : Below w.heap.size w WA := by rw [hWA]; exact (((Below.refl _ _).alloc (Nat.le_refl _) _).alloc (by simp) _).alloc (by simp; omega) _
  have b6 : Blk WA w.heap.size 28 #[.slice none 0 0] := by rw [hWA]; exact ((Blk.new w _ _).alloc _).alloc _
  have b7 : Blk WA (w.heap.size + 1) 29 #[.int .i64 0] := by
    rw [hWA]; have := (Blk.new (w.alloc (.cells #[.slice none 0 0] 28)) 29 #[.int .i64 0]).alloc (.cells #[.nilIface] 31); simpa using this
  have b8 : Blk WA (w.heap.size + 2) 31 #[.nilIface] := by
    rw [hWA]; have := Blk.new ((w.alloc (.cells #[.slice none 0 0] 28)).alloc (.cells #[.int .i64 0] 29)) 31 #[.nilIface]; simpa using this
  have hsa : WA.heap.size = w.heap.size + 3 := by rw [hWA]; simp
  have CS := Lib.hid (show Calls Tryd.prog 41 #[.string ⟨#[97, 110, 100]⟩, .slice (some ad) 2 c] WA (ShP WA true) from by
    have hl : Lens WA (some ad) [1, 1] := by have hq := (hp.new hba).lens; simpa [] using hq
    have hs := shape_and (c := c) (hL.below hba hLB) (by omega) hl (b0 := true) rfl (b1 := true) rfl
    rwa [show (true && true) = true from rfl] at hs)
  have HPW := Lib.hid hp
  have HPA := Lib.hid (hp.new hba)
  have HGA := Lib.hid (h.new hba)
  have HBA := Lib.hid hba
  have HB678 := Lib.hid (And.intro b6 (And.intro b7 b8))
  have HWA := Lib.hid hWA
  have HSA := Lib.hid hsa
  have HNL := Lib.hid hn
  clear h hL hp hba b6 b7 b8 hWA hsa hn hadlt
  have hmf : ∀ (fn : Fn) (first cap : Array Value) (w : World), (Instr.makeFunc fn first cap).run Tryd.prog w = .ok (.func fn first cap) w := fun _ _ _ _ => rfl
  go_enter_defers Tryd.func17, Tryd.ntmps17
  go_wp2_with fail
  rw [← HWA.out]
  refine CS.out.mono ?_
  rintro e w1 ⟨rfl, hb⟩
  have HP1 := Lib.hid (HPA.out.new hb)
  have HG1 := Lib.hid (HGA.out.new hb)
  have HB1 := Lib.hid hb
  obtain ⟨ad', o, hA', _, _, hcell⟩ := HPA.out.new hb
  obtain rfl : ad = ad' := by injection hA'
  have HCL := Lib.hid hcell
  clear hb hcell hA'
  go_wp2_with fail
  go_loop [21] (fun iv => LcR 2 iv) (fun iv => 2 - (intOf iv).toNat)
  case atStart => exact ⟨0, by omega, rfl⟩
  case round =>
    obtain ⟨k0, hk, rfl⟩ := hrel
    by_cases hk2 : k0 < 2
    · obtain ⟨zs, hz⟩ : ∃ zs, [[x], [y]][k0]? = some zs := ⟨_, List.getElem?_eq_getElem (by simpa using hk2)⟩
      have hzh := HOK.out zs (List.mem_of_getElem? hz)
      obtain ⟨Ai, ci, hci, hh⟩ := HCL.out k0 zs hz
      obtain ⟨adz, rfl⟩ := hh.form (by have := hzh.2.1; omega)
      have HH := Lib.hid hh
      have HZ := Lib.hid hzh
      obtain ⟨m, hm⟩ : ∃ m, zs.length = m := ⟨_, rfl⟩
      have hm1 : 1 ≤ m ∧ m ≤ 8 := by rw [← hm]; exact hzh.2
      obtain ⟨hm1, hm8⟩ := hm1
      rw [hm] at hci
      have HM := Lib.hid hm
      clear hz hh hzh hm
      go_wp2_with fail
      go_loop [27] (fun jv => LcR m jv) (fun jv => m - (intOf jv).toNat)
      case atStart => exact ⟨0, by omega, rfl⟩
      try case atStart => exact ⟨0, by omega, rfl⟩
      case round =>
        obtain ⟨j, hj, rfl⟩ := hrel
        by_cases hj8 : j < m
        · obtain ⟨x, hx⟩ : ∃ x, zs[j]? = some x := ⟨_, List.getElem?_eq_getElem (by rw [HM.out]; exact hj8)⟩
          have cx := HH.out.at_ hx
          have CX := Lib.hid (has_lit HG1.out (HZ.out.1 x (List.mem_of_getElem? hx)) (Nat.le_trans HNL.out (by omega)))
          clear hx
          go_wp2_with fail
          refine CX.out.mono ?_
          rintro e w' ⟨rfl, rfl⟩
          go_wp2_with fail
          go_round
          case rel => exact ⟨j + 1, by omega, by go_num⟩
          case measure => simp [intOf]; omega
        · obtain rfl : j = m := by omega
          go_wp2_with fail
          go_round
          case rel => exact ⟨k0 + 1, by omega, by go_num⟩
          case measure => simp [intOf]; omega
    · obtain rfl : k0 = 2 := by omega
      obtain ⟨A0, c0, h0, hh0⟩ := HCL.out 0 ([x]) rfl
      simp only [List.length_cons, List.length_nil] at h0 hh0
      obtain ⟨ae0, rfl⟩ := hh0.form (by omega)
      obtain ⟨A1, c1, h1, hh1⟩ := HCL.out 1 ([y]) rfl
      simp only [List.length_cons, List.length_nil] at h1 hh1
      obtain ⟨ae1, rfl⟩ := hh1.form (by omega)
      obtain ⟨b6, b7, b8⟩ := HB678.out
      have b6' := b6.below HB1.out (by rw [HSA.out]; omega)
      have b7' := b7.below HB1.out (by rw [HSA.out]; omega)
      have b8' := b8.below HB1.out (by rw [HSA.out]; omega)
      obtain ⟨W2, hW2⟩ : ∃ W2, W2 = (w1.alloc (.cells #[.pointer (some ⟨b, 0, none⟩)] 106)).drew := ⟨_, rfl⟩
      have b13 : Blk W2 w1.heap.size 106 #[.pointer (some ⟨b, 0, none⟩)] := by rw [hW2]; exact (Blk.new w1 _ _).drew
      have hb12 : Below w1.heap.size w1 W2 := by rw [hW2]; exact below_drewN ((Below.refl _ _).alloc (Nat.le_refl _) _) 1
      have hs1 := HB1.out.size
      have hsa := HSA.out
      have HBW2 := Lib.hid (show Below w.heap.size w W2 from HBA.out.trans ((HB1.out.trans (hb12.mono hs1)).mono (by omega)))
      have hbw2 := HBW2.out
      have HB678 := Lib.hid (And.intro (b6'.below hb12 b6'.lt) (And.intro (b7'.below hb12 b7'.lt) (b8'.below hb12 b8'.lt)))
      have hpw := HP1.out.new hb12
      have HAE0 := Lib.hid (show ae0.block < w.heap.size from by
        obtain ⟨ad2, o2, hA2, _, _, hcell2⟩ := HPW.out
        obtain rfl : ad = ad2 := by injection hA2
        obtain ⟨B0, d0, r1, r2⟩ := hcell2 0 _ rfl
        have r3 := (HBA.out.cell (World.block_lt_of_cell? _ _ r1)).trans r1
        have r4 := (HB1.out.cell (World.block_lt_of_cell? _ _ r3)).trans r3
        have r5 : some ae0 = B0 := by have := h0.symm.trans r4; simp only [Option.some.injEq, Value.slice.injEq] at this; exact this.1
        subst r5
        exact World.block_lt_of_cell? _ _ (r2.at_ (k := 0) rfl))
      have HAE1 := Lib.hid (show ae1.block < w.heap.size from by
        obtain ⟨ad2, o2, hA2, _, _, hcell2⟩ := HPW.out
        obtain rfl : ad = ad2 := by injection hA2
        obtain ⟨B0, d0, r1, r2⟩ := hcell2 1 _ rfl
        have r3 := (HBA.out.cell (World.block_lt_of_cell? _ _ r1)).trans r1
        have r4 := (HB1.out.cell (World.block_lt_of_cell? _ _ r3)).trans r3
        have r5 : some ae1 = B0 := by have := h1.symm.trans r4; simp only [Option.some.injEq, Value.slice.injEq] at this; exact this.1
        subst r5
        exact World.block_lt_of_cell? _ _ (r2.at_ (k := 0) rfl))
      have HS := Lib.hid (show ∀ w' : World, Chg (GT B) W2 w' → w'.cell? ⟨w1.heap.size, 0, none⟩ = some (.pointer (some ⟨b, 0, none⟩)) ∧ w'.cell? ad = some (.slice (some ae0) 1 c0) ∧ w'.cell? ⟨ad.block, ad.off + 1, none⟩ = some (.slice (some ae1) 1 c1) ∧ w'.cell? ae0 = some (.int .i64 (x : Nat)) ∧ w'.cell? ae1 = some (.int .i64 (y : Nat)) from fun w' hc => ⟨(box_gt b13 hc).cell 0, (hpw.same hc 0).trans ((hb12.cell (World.block_lt_of_cell? _ _ h0)).trans h0), (hpw.same hc 1).trans ((hb12.cell (World.block_lt_of_cell? _ _ h1)).trans h1), ((hh0.new hb12).gt hc).at_ (k := 0) rfl, ((hh1.new hb12).gt hc).at_ (k := 0) rfl⟩)
      have HKS := Lib.hid (show ∀ w' w'' : World, (∀ p : Addr, p.block < w.heap.size ∨ w.heap.size + 3 ≤ p.block → w''.cell? p = w'.cell? p) → (w'.cell? ⟨w1.heap.size, 0, none⟩ = some (.pointer (some ⟨b, 0, none⟩)) ∧ w'.cell? ad = some (.slice (some ae0) 1 c0) ∧ w'.cell? ⟨ad.block, ad.off + 1, none⟩ = some (.slice (some ae1) 1 c1) ∧ w'.cell? ae0 = some (.int .i64 (x : Nat)) ∧ w'.cell? ae1 = some (.int .i64 (y : Nat))) → w''.cell? ⟨w1.heap.size, 0, none⟩ = some (.pointer (some ⟨b, 0, none⟩)) ∧ w''.cell? ad = some (.slice (some ae0) 1 c0) ∧ w''.cell? ⟨ad.block, ad.off + 1, none⟩ = some (.slice (some ae1) 1 c1) ∧ w''.cell? ae0 = some (.int .i64 (x : Nat)) ∧ w''.cell? ae1 = some (.int .i64 (y : Nat)) from fun w' w'' hk h => by
        obtain ⟨q0, q1, q2, q3, q4⟩ := h
        exact ⟨(hk _ (.inr (by show w.heap.size + 3 ≤ w1.heap.size; omega))).trans q0, (hk _ (.inl (by show ad.block < w.heap.size; exact HAD.out))).trans q1, (hk _ (.inl (by show ad.block < w.heap.size; exact HAD.out))).trans q2, (hk _ (.inl HAE0.out)).trans q3, (hk _ (.inl HAE1.out)).trans q4⟩)
      have hg2 := HG1.out.new hb12
      have hh02 := hh0.new hb12
      have hh12 := hh1.new hb12
      have CI := Lib.hid ((bools_and hg2 (by have := HNL.out; omega) gx gy).mono (rp_lg (madeL_of (fun inp => Gm.comes_and hg2.wf gx gy) (Nat.le_trans (Gm.andG_len ..) (by omega)))))
      have HBX := Lib.hid b13
      have HG2 := Lib.hid hg2
      have HS1 := Lib.hid (And.intro hs1 hsa)
      have HW2 := Lib.hid hW2
      clear hpw hg2 hs1 hsa b6 b7 b8 b6' b7' b8' hW2 b13 hb12 hbw2 h0 hh0 hh02 h1 hh1 hh12
      go_wp2_with fail
      refine wp_region_seq (S := fun w' => w'.cell? ⟨w1.heap.size, 0, none⟩ = some (.pointer (some ⟨b, 0, none⟩)) ∧ w'.cell? ad = some (.slice (some ae0) 1 c0) ∧ w'.cell? ⟨ad.block, ad.off + 1, none⟩ = some (.slice (some ae1) 1 c1) ∧ w'.cell? ae0 = some (.int .i64 (x : Nat)) ∧ w'.cell? ae1 = some (.int .i64 (y : Nat))) [(0, false), (1, false), (2, false), (3, false), (4, false), (5, false), (6, false), (7, false), (8, false), (9, false), (10, false), (11, false), (12, true), (13, true), (14, true), (15, true), (16, true)] (by kernel_rfl) (by kernel_rfl) (by kernel_rfl) (by rw [← HW2.out]; exact HS.out _ (Chg.refl _ _)) ?_
      rw [← HW2.out]
      iterate 12 (refine seq_take _ _ rfl (by kernel_rfl) (fun wv hv => by obtain ⟨hv1, hv2, hv3, hv4, hv5⟩ := hv; go_simp; try with_reducible rfl) ?_; simp only [Act.put, List.getElem_toArray, List.getElem_cons_zero, List.getElem_cons_succ, List.setIfInBounds_toArray, List.set_cons_zero, List.set_cons_succ])
      refine seq_act _ rfl (fun K hK => ?_)
      go_simp
      refine CI.out.mono ?_
      rintro e w3 ⟨gs3, l3, rfl, h1, h2, h4⟩
      have HC3 := Lib.hid h2
      have HS3 := Lib.hid (HS.out _ h2)
      go_simp
      refine hK _ _ (HS3.out) ?_
      clear hK K
      obtain ⟨W4, hW4⟩ : ∃ W4, W4 = w3.alloc (.cells #[.int .i64 (l3 : Nat)] 29) := ⟨_, rfl⟩
      have HGX := Lib.hid (show GA W4 B b gs3 by rw [hW4]; exact h1.alloc1 _)
      have h24 : Chg (GT B) W2 W4 := by rw [hW4]; exact h2.alloc _
      have HCX := Lib.hid ((Chg.of_new (S := GT B) HBW2.out).trans h24)
      have HOX := Lib.hid (show W4.ownsRow w3.heap.size 29 1 (.slice (some ⟨w3.heap.size, 0, none⟩) 1 1) 1 (natVals [l3]) by rw [hW4]; exact own_one w3 _)
      have HM := Lib.hid (h4.one)
      have HSX := Lib.hid (HS.out _ h24)
      have HOB := Lib.hid (show w.heap.size + 3 ≤ w3.heap.size from by have := HB678.out.2.2.lt; have := h2.size; omega)
      have HB3 := Lib.hid (show Blk W4 w.heap.size 28 #[.slice none 0 0] ∧ Blk W4 (w.heap.size + 1) 29 #[.int .i64 0] ∧ Blk W4 (w.heap.size + 2) 31 #[.nilIface] from
        ⟨HB678.out.1.chg h24 fun hs => by rcases hs.2 with e | e | e <;> simp [elemOf] at e, HB678.out.2.1.chg h24 fun hs => by rcases hs.2 with e | e | e <;> simp [elemOf] at e, HB678.out.2.2.chg h24 fun hs => by rcases hs.2 with e | e | e <;> simp [elemOf] at e⟩)
      have HW4 := Lib.hid hW4
      clear h1 h2 h4 h24 hW4
      refine seq_act _ rfl (fun K hK => ?_)
      go_simp
      go_simp
      refine hK _ _ ((by rw [← HW4.out]; exact HSX.out)) ?_
      clear hK K
      rw [← HW4.out]
      obtain ⟨W7, hW7⟩ : ∃ W7, W7 = W4.setCell ⟨w.heap.size, 0, none⟩ (.slice (some ⟨w3.heap.size, 0, none⟩) 1 1) := ⟨_, rfl⟩
      obtain ⟨W8, hW8⟩ : ∃ W8, W8 = W7.setCell ⟨w.heap.size + 1, 0, none⟩ (.int .i64 0) := ⟨_, rfl⟩
      obtain ⟨W9, hW9⟩ : ∃ W9, W9 = W8.setCell ⟨w.heap.size + 2, 0, none⟩ .nilIface := ⟨_, rfl⟩
      have ht := tail3 HB3.out.1 HB3.out.2.1 HB3.out.2.2 hW7 hW8 hW9
      have HT := Lib.hid ht
      have cc6 := ht.c6
      have ff6 := ht.f6
      have cc7 := ht.c7
      have ff7 := ht.f7
      have cc8 := ht.c8
      have ff8 := ht.f8
      have HW7 := Lib.hid hW7
      have HW8 := Lib.hid hW8
      have HW9 := Lib.hid hW9
      clear hW7 hW8 hW9 ht
      refine seq_act _ rfl (fun K hK => ?_)
      go_simp
      refine hK _ _ ((by rw [← HW7.out]; exact HKS.out _ _ HT.out.k7 HSX.out)) ?_
      clear hK K
      try simp only [Act.put, List.getElem_toArray, List.getElem_cons_zero, List.getElem_cons_succ, List.setIfInBounds_toArray, List.set_cons_zero, List.set_cons_succ]
      refine seq_act _ rfl (fun K hK => ?_)
      go_simp
      refine hK _ _ ((by rw [← HW7.out, ← HW8.out]; exact HKS.out _ _ HT.out.k8 HSX.out)) ?_
      clear hK K
      try simp only [Act.put, List.getElem_toArray, List.getElem_cons_zero, List.getElem_cons_succ, List.setIfInBounds_toArray, List.set_cons_zero, List.set_cons_succ]
      refine seq_act _ rfl (fun K hK => ?_)
      go_simp
      refine hK _ _ ((by rw [← HW7.out, ← HW8.out, ← HW9.out]; exact HKS.out _ _ HT.out.k9 HSX.out)) ?_
      clear hK K
      try simp only [Act.put, List.getElem_toArray, List.getElem_cons_zero, List.getElem_cons_succ, List.setIfInBounds_toArray, List.set_cons_zero, List.set_cons_succ]
      refine seq_nil ?_
      rw [← HW7.out, ← HW8.out, ← HW9.out]
      clear cc6 ff6 cc7 ff7 cc8 ff8
      go_wp2_with fail
      refine leaves_cons (f := 42) (args := #[.pointer (some ⟨w.heap.size, 0, none⟩), .pointer (some ⟨w.heap.size + 1, 0, none⟩), .pointer (some ⟨w.heap.size + 2, 0, none⟩)]) (by simp) (by simp [go_sem]) ?_
      refine (of_idle _ _ _ _).mono ?_
      rintro e u' w'' ⟨rfl, rfl, rfl⟩
      have x6 := HT.out.e6.cell 0
      have x7 := HT.out.e7.cell 0
      have x8 := HT.out.e8.cell 0
      have HKEY := Lib.hid (of_key HT.out HGX.out HCX.out HOX.out (by have := HBW2.out.size; have := HB3.out.2.2.lt; have := HOB.out; omega) HM.out)
      simp [Leaves, settle, results, Tryd.results17, go_sem, x6, x7, x8]
      exact HKEY.out
set_option maxRecDepth 100000 in
set_option maxHeartbeats 4000000 in
theorem of_or {w : World} {B b LB : Nat} {gs : List Gm.Gate} (h : GA w B b gs) (hL : Lvls w LB) (hLB : LB ≤ w.heap.size) {A : Option Addr} {c : Nat} {x y : Nat} (gx : Gm.has gs x) (gy : Gm.has gs y) (hp : PartsAt w B A [[x], [y]]) (hn : gs.length ≤ 90000) :
    Calls Tryd.prog 17 #[.pointer (some ⟨b, 0, none⟩), .string ⟨#[111, 114]⟩, .slice A 2 c] w (OfP w B b gs (3) (1) (fun inp => [Gm.ev inp gs x || Gm.ev inp gs y]) (fun _ => false)) := by
  obtain ⟨ad, hA, hadlt⟩ : ∃ ad, A = some ad ∧ ad.block < w.heap.size := by
    obtain ⟨ad, o, hA, ho, _, _⟩ := hp; exact ⟨ad, hA, lt_of_heap ho⟩
  subst hA
  have HAD := Lib.hid hadlt
  have HOK := Lib.hid (show ∀ zs ∈ [[x], [y]], PartOk gs zs from parts_ok2 (.one gx) (.one gy))
  obtain ⟨WA, hWA⟩ : ∃ WA, WA = ((w.alloc (.cells #[.slice none 0 0] 28)).alloc (.cells #[.int .i64 0] 29)).alloc (.cells #[.nilIface] 31) := ⟨_, rfl⟩
  have hba : Below w.heap.size w WA := by rw [hWA]; exact (((Below.refl _ _).alloc (Nat.le_refl _) _).alloc (by simp) _).alloc (by simp; omega) _
  have b6 : Blk WA w.heap.size 28 #[.slice none 0 0] := by rw [hWA]; exact ((Blk.new w _ _).alloc _).alloc _
  have b7 : Blk WA (w.heap.size + 1) 29 #[.int .i64 0] := by
    rw [hWA]; have := (Blk.new (w.alloc (.cells #[.slice none 0 0] 28)) 29 #[.int .i64 0]).alloc (.cells #[.nilIface] 31); simpa using this
  have b8 : Blk WA (w.heap.size + 2) 31 #[.nilIface] := by
    rw [hWA]; have := Blk.new ((w.alloc (.cells #[.slice none 0 0] 28)).alloc (.cells #[.int .i64 0] 29)) 31 #[.nilIface]; simpa using this
  have hsa : WA.heap.size = w.heap.size + 3 := by rw [hWA]; simp
  have CS := Lib.hid (show Calls Tryd.prog 41 #[.string ⟨#[111, 114]⟩, .slice (some ad) 2 c] WA (ShP WA true) from by
    have hl : Lens WA (some ad) [1, 1] := by have hq := (hp.new hba).lens; simpa [] using hq
    have hs := shape_or (c := c) (hL.below hba hLB) (by omega) hl (b0 := true) rfl (b1 := true) rfl
    rwa [show (true && true) = true from rfl] at hs)
  have HPW := Lib.hid hp
  have HPA := Lib.hid (hp.new hba)
  have HGA := Lib.hid (h.new hba)
  have HBA := Lib.hid hba
  have HB678 := Lib.hid (And.intro b6 (And.intro b7 b8))
  have HWA := Lib.hid hWA
  have HSA := Lib.hid hsa
  have HNL := Lib.hid hn
  clear h hL hp hba b6 b7 b8 hWA hsa hn hadlt
  have hmf : ∀ (fn : Fn) (first cap : Array Value) (w : World), (Instr.makeFunc fn first cap).run Tryd.prog w = .ok (.func fn first cap) w := fun _ _ _ _ => rfl
  go_enter_defers Tryd.func17, Tryd.ntmps17
  go_wp2_with fail
  rw [← HWA.out]
  refine CS.out.mono ?_
  rintro e w1 ⟨rfl, hb⟩
  have HP1 := Lib.hid (HPA.out.new hb)
  have HG1 := Lib.hid (HGA.out.new hb)
  have HB1 := Lib.hid hb
  obtain ⟨ad', o, hA', _, _, hcell⟩ := HPA.out.new hb
  obtain rfl : ad = ad' := by injection hA'
  have HCL := Lib.hid hcell
  clear hb hcell hA'
  go_wp2_with fail
  go_loop [21] (fun iv => LcR 2 iv) (fun iv => 2 - (intOf iv).toNat)
  case atStart => exact ⟨0, by omega, rfl⟩
  case round =>
    obtain ⟨k0, hk, rfl⟩ := hrel
    by_cases hk2 : k0 < 2
    · obtain ⟨zs, hz⟩ : ∃ zs, [[x], [y]][k0]? = some zs := ⟨_, List.getElem?_eq_getElem (by simpa using hk2)⟩
      have hzh := HOK.out zs (List.mem_of_getElem? hz)
      obtain ⟨Ai, ci, hci, hh⟩ := HCL.out k0 zs hz
      obtain ⟨adz, rfl⟩ := hh.form (by have := hzh.2.1; omega)
      have HH := Lib.hid hh
      have HZ := Lib.hid hzh
      obtain ⟨m, hm⟩ : ∃ m, zs.length = m := ⟨_, rfl⟩
      have hm1 : 1 ≤ m ∧ m ≤ 8 := by rw [← hm]; exact hzh.2
      obtain ⟨hm1, hm8⟩ := hm1
      rw [hm] at hci
      have HM := Lib.hid hm
      clear hz hh hzh hm
      go_wp2_with fail
      go_loop [27] (fun jv => LcR m jv) (fun jv => m - (intOf jv).toNat)
      case atStart => exact ⟨0, by omega, rfl⟩
      try case atStart => exact ⟨0, by omega, rfl⟩
      case round =>
        obtain ⟨j, hj, rfl⟩ := hrel
        by_cases hj8 : j < m
        · obtain ⟨x, hx⟩ : ∃ x, zs[j]? = some x := ⟨_, List.getElem?_eq_getElem (by rw [HM.out]; exact hj8)⟩
          have cx := HH.out.at_ hx
          have CX := Lib.hid (has_lit HG1.out (HZ.out.1 x (List.mem_of_getElem? hx)) (Nat.le_trans HNL.out (by omega)))
          clear hx
          go_wp2_with fail
          refine CX.out.mono ?_
          rintro e w' ⟨rfl, rfl⟩
          go_wp2_with fail
          go_round
          case rel => exact ⟨j + 1, by omega, by go_num⟩
          case measure => simp [intOf]; omega
        · obtain rfl : j = m := by omega
          go_wp2_with fail
          go_round
          case rel => exact ⟨k0 + 1, by omega, by go_num⟩
          case measure => simp [intOf]; omega
    · obtain rfl : k0 = 2 := by omega
      obtain ⟨A0, c0, h0, hh0⟩ := HCL.out 0 ([x]) rfl
      simp only [List.length_cons, List.length_nil] at h0 hh0
      obtain ⟨ae0, rfl⟩ := hh0.form (by omega)
      obtain ⟨A1, c1, h1, hh1⟩ := HCL.out 1 ([y]) rfl
      simp only [List.length_cons, List.length_nil] at h1 hh1
      obtain ⟨ae1, rfl⟩ := hh1.form (by omega)
      obtain ⟨b6, b7, b8⟩ := HB678.out
      have b6' := b6.below HB1.out (by rw [HSA.out]; omega)
      have b7' := b7.below HB1.out (by rw [HSA.out]; omega)
      have b8' := b8.below HB1.out (by rw [HSA.out]; omega)
      obtain ⟨W2, hW2⟩ : ∃ W2, W2 = (w1.alloc (.cells #[.pointer (some ⟨b, 0, none⟩)] 106)).drew := ⟨_, rfl⟩
      have b13 : Blk W2 w1.heap.size 106 #[.pointer (some ⟨b, 0, none⟩)] := by rw [hW2]; exact (Blk.new w1 _ _).drew
      have hb12 : Below w1.heap.size w1 W2 := by rw [hW2]; exact below_drewN ((Below.refl _ _).alloc (Nat.le_refl _) _) 1
      have hs1 := HB1.out.size
      have hsa := HSA.out
      have HBW2 := Lib.hid (show Below w.heap.size w W2 from HBA.out.trans ((HB1.out.trans (hb12.mono hs1)).mono (by omega)))
      have hbw2 := HBW2.out
      have HB678 := Lib.hid (And.intro (b6'.below hb12 b6'.lt) (And.intro (b7'.below hb12 b7'.lt) (b8'.below hb12 b8'.lt)))
      have hpw := HP1.out.new hb12
      have HAE0 := Lib.hid (show ae0.block < w.heap.size from by
        obtain ⟨ad2, o2, hA2, _, _, hcell2⟩ := HPW.out
        obtain rfl : ad = ad2 := by injection hA2
        obtain ⟨B0, d0, r1, r2⟩ := hcell2 0 _ rfl
        have r3 := (HBA.out.cell (World.block_lt_of_cell? _ _ r1)).trans r1
        have r4 := (HB1.out.cell (World.block_lt_of_cell? _ _ r3)).trans r3
        have r5 : some ae0 = B0 := by have := h0.symm.trans r4; simp only [Option.some.injEq, Value.slice.injEq] at this; exact this.1
        subst r5
        exact World.block_lt_of_cell? _ _ (r2.at_ (k := 0) rfl))
      have HAE1 := Lib.hid (show ae1.block < w.heap.size from by
        obtain ⟨ad2, o2, hA2, _, _, hcell2⟩ := HPW.out
        obtain rfl : ad = ad2 := by injection hA2
        obtain ⟨B0, d0, r1, r2⟩ := hcell2 1 _ rfl
        have r3 := (HBA.out.cell (World.block_lt_of_cell? _ _ r1)).trans r1
        have r4 := (HB1.out.cell (World.block_lt_of_cell? _ _ r3)).trans r3
        have r5 : some ae1 = B0 := by have := h1.symm.trans r4; simp only [Option.some.injEq, Value.slice.injEq] at this; exact this.1
        subst r5
        exact World.block_lt_of_cell? _ _ (r2.at_ (k := 0) rfl))
      have HS := Lib.hid (show ∀ w' : World, Chg (GT B) W2 w' → w'.cell? ⟨w1.heap.size, 0, none⟩ = some (.pointer (some ⟨b, 0, none⟩)) ∧ w'.cell? ad = some (.slice (some ae0) 1 c0) ∧ w'.cell? ⟨ad.block, ad.off + 1, none⟩ = some (.slice (some ae1) 1 c1) ∧ w'.cell? ae0 = some (.int .i64 (x : Nat)) ∧ w'.cell? ae1 = some (.int .i64 (y : Nat)) from fun w' hc => ⟨(box_gt b13 hc).cell 0, (hpw.same hc 0).trans ((hb12.cell (World.block_lt_of_cell? _ _ h0)).trans h0), (hpw.same hc 1).trans ((hb12.cell (World.block_lt_of_cell? _ _ h1)).trans h1), ((hh0.new hb12).gt hc).at_ (k := 0) rfl, ((hh1.new hb12).gt hc).at_ (k := 0) rfl⟩)
      have HKS := Lib.hid (show ∀ w' w'' : World, (∀ p : Addr, p.block < w.heap.size ∨ w.heap.size + 3 ≤ p.block → w''.cell? p = w'.cell? p) → (w'.cell? ⟨w1.heap.size, 0, none⟩ = some (.pointer (some ⟨b, 0, none⟩)) ∧ w'.cell? ad = some (.slice (some ae0) 1 c0) ∧ w'.cell? ⟨ad.block, ad.off + 1, none⟩ = some (.slice (some ae1) 1 c1) ∧ w'.cell? ae0 = some (.int .i64 (x : Nat)) ∧ w'.cell? ae1 = some (.int .i64 (y : Nat))) → w''.cell? ⟨w1.heap.size, 0, none⟩ = some (.pointer (some ⟨b, 0, none⟩)) ∧ w''.cell? ad = some (.slice (some ae0) 1 c0) ∧ w''.cell? ⟨ad.block, ad.off + 1, none⟩ = some (.slice (some ae1) 1 c1) ∧ w''.cell? ae0 = some (.int .i64 (x : Nat)) ∧ w''.cell? ae1 = some (.int .i64 (y : Nat)) from fun w' w'' hk h => by
        obtain ⟨q0, q1, q2, q3, q4⟩ := h
        exact ⟨(hk _ (.inr (by show w.heap.size + 3 ≤ w1.heap.size; omega))).trans q0, (hk _ (.inl (by show ad.block < w.heap.size; exact HAD.out))).trans q1, (hk _ (.inl (by show ad.block < w.heap.size; exact HAD.out))).trans q2, (hk _ (.inl HAE0.out)).trans q3, (hk _ (.inl HAE1.out)).trans q4⟩)
      have hg2 := HG1.out.new hb12
      have hh02 := hh0.new hb12
      have hh12 := hh1.new hb12
      have CI := Lib.hid ((bools_or hg2 (by have := HNL.out; omega) gx gy).mono (rp_lg (madeL_of (fun inp => Gm.comes_or hg2.wf gx gy) (Nat.le_trans (Gm.orG_len ..) (by omega)))))
      have HBX := Lib.hid b13
      have HG2 := Lib.hid hg2
      have HS1 := Lib.hid (And.intro hs1 hsa)
      have HW2 := Lib.hid hW2
      clear hpw hg2 hs1 hsa b6 b7 b8 b6' b7' b8' hW2 b13 hb12 hbw2 h0 hh0 hh02 h1 hh1 hh12
      go_wp2_with fail
      refine wp_region_seq (S := fun w' => w'.cell? ⟨w1.heap.size, 0, none⟩ = some (.pointer (some ⟨b, 0, none⟩)) ∧ w'.cell? ad = some (.slice (some ae0) 1 c0) ∧ w'.cell? ⟨ad.block, ad.off + 1, none⟩ = some (.slice (some ae1) 1 c1) ∧ w'.cell? ae0 = some (.int .i64 (x : Nat)) ∧ w'.cell? ae1 = some (.int .i64 (y : Nat))) [(0, false), (1, false), (2, false), (3, false), (4, false), (5, false), (6, false), (7, false), (8, false), (9, false), (10, false), (11, false), (12, true), (13, true), (14, true), (15, true), (16, true)] (by kernel_rfl) (by kernel_rfl) (by kernel_rfl) (by rw [← HW2.out]; exact HS.out _ (Chg.refl _ _)) ?_
      rw [← HW2.out]
      iterate 12 (refine seq_take _ _ rfl (by kernel_rfl) (fun wv hv => by obtain ⟨hv1, hv2, hv3, hv4, hv5⟩ := hv; go_simp; try with_reducible rfl) ?_; simp only [Act.put, List.getElem_toArray, List.getElem_cons_zero, List.getElem_cons_succ, List.setIfInBounds_toArray, List.set_cons_zero, List.set_cons_succ])
      refine seq_act _ rfl (fun K hK => ?_)
      go_simp
      refine CI.out.mono ?_
      rintro e w3 ⟨gs3, l3, rfl, h1, h2, h4⟩
      have HC3 := Lib.hid h2
      have HS3 := Lib.hid (HS.out _ h2)
      go_simp
      refine hK _ _ (HS3.out) ?_
      clear hK K
      obtain ⟨W4, hW4⟩ : ∃ W4, W4 = w3.alloc (.cells #[.int .i64 (l3 : Nat)] 29) := ⟨_, rfl⟩
      have HGX := Lib.hid (show GA W4 B b gs3 by rw [hW4]; exact h1.alloc1 _)
      have h24 : Chg (GT B) W2 W4 := by rw [hW4]; exact h2.alloc _
      have HCX := Lib.hid ((Chg.of_new (S := GT B) HBW2.out).trans h24)
      have HOX := Lib.hid (show W4.ownsRow w3.heap.size 29 1 (.slice (some ⟨w3.heap.size, 0, none⟩) 1 1) 1 (natVals [l3]) by rw [hW4]; exact own_one w3 _)
      have HM := Lib.hid (h4.one)
      have HSX := Lib.hid (HS.out _ h24)
      have HOB := Lib.hid (show w.heap.size + 3 ≤ w3.heap.size from by have := HB678.out.2.2.lt; have := h2.size; omega)
      have HB3 := Lib.hid (show Blk W4 w.heap.size 28 #[.slice none 0 0] ∧ Blk W4 (w.heap.size + 1) 29 #[.int .i64 0] ∧ Blk W4 (w.heap.size + 2) 31 #[.nilIface] from
        ⟨HB678.out.1.chg h24 fun hs => by rcases hs.2 with e | e | e <;> simp [elemOf] at e, HB678.out.2.1.chg h24 fun hs => by rcases hs.2 with e | e | e <;> simp [elemOf] at e, HB678.out.2.2.chg h24 fun hs => by rcases hs.2 with e | e | e <;> simp [elemOf] at e⟩)
      have HW4 := Lib.hid hW4
      clear h1 h2 h4 h24 hW4
      refine seq_act _ rfl (fun K hK => ?_)
      go_simp
      go_simp
      refine hK _ _ ((by rw [← HW4.out]; exact HSX.out)) ?_
      clear hK K
      rw [← HW4.out]
      obtain ⟨W7, hW7⟩ : ∃ W7, W7 = W4.setCell ⟨w.heap.size, 0, none⟩ (.slice (some ⟨w3.heap.size, 0, none⟩) 1 1) := ⟨_, rfl⟩
      obtain ⟨W8, hW8⟩ : ∃ W8, W8 = W7.setCell ⟨w.heap.size + 1, 0, none⟩ (.int .i64 0) := ⟨_, rfl⟩
      obtain ⟨W9, hW9⟩ : ∃ W9, W9 = W8.setCell ⟨w.heap.size + 2, 0, none⟩ .nilIface := ⟨_, rfl⟩
      have ht := tail3 HB3.out.1 HB3.out.2.1 HB3.out.2.2 hW7 hW8 hW9
      have HT := Lib.hid ht
      have cc6 := ht.c6
      have ff6 := ht.f6
      have cc7 := ht.c7
      have ff7 := ht.f7
      have cc8 := ht.c8
      have ff8 := ht.f8
      have HW7 := Lib.hid hW7
      have HW8 := Lib.hid hW8
      have HW9 := Lib.hid hW9
      clear hW7 hW8 hW9 ht
      refine seq_act _ rfl (fun K hK => ?_)
      go_simp
      refine hK _ _ ((by rw [← HW7.out]; exact HKS.out _ _ HT.out.k7 HSX.out)) ?_
      clear hK K
      try simp only [Act.put, List.getElem_toArray, List.getElem_cons_zero, List.getElem_cons_succ, List.setIfInBounds_toArray, List.set_cons_zero, List.set_cons_succ]
      refine seq_act _ rfl (fun K hK => ?_)
      go_simp
      refine hK _ _ ((by rw [← HW7.out, ← HW8.out]; exact HKS.out _ _ HT.out.k8 HSX.out)) ?_
      clear hK K
      try simp only [Act.put, List.getElem_toArray, List.getElem_cons_zero, List.getElem_cons_succ, List.setIfInBounds_toArray, List.set_cons_zero, List.set_cons_succ]
      refine seq_act _ rfl (fun K hK => ?_)
      go_simp
      refine hK _ _ ((by rw [← HW7.out, ← HW8.out, ← HW9.out]; exact HKS.out _ _ HT.out.k9 HSX.out)) ?_
      clear hK K
      try simp only [Act.put, List.getElem_toArray, List.getElem_cons_zero, List.getElem_cons_succ, List.setIfInBounds_toArray, List.set_cons_zero, List.set_cons_succ]
      refine seq_nil ?_
      rw [← HW7.out, ← HW8.out, ← HW9.out]
      clear cc6 ff6 cc7 ff7 cc8 ff8
      go_wp2_with fail
      refine leaves_cons (f := 42) (args := #[.pointer (some ⟨w.heap.size, 0, none⟩), .pointer (some ⟨w.heap.size + 1, 0, none⟩), .pointer (some ⟨w.heap.size + 2, 0, none⟩)]) (by simp) (by simp [go_sem]) ?_
      refine (of_idle _ _ _ _).mono ?_
      rintro e u' w'' ⟨rfl, rfl, rfl⟩
      have x6 := HT.out.e6.cell 0
      have x7 := HT.out.e7.cell 0
      have x8 := HT.out.e8.cell 0
      have HKEY := Lib.hid (of_key HT.out HGX.out HCX.out HOX.out (by have := HBW2.out.size; have := HB3.out.2.2.lt; have := HOB.out; omega) HM.out)
      simp [Leaves, settle, results, Tryd.results17, go_sem, x6, x7, x8]
      exact HKEY.out
set_option maxRecDepth 100000 in
set_option maxHeartbeats 4000000 in
theorem of_xor {w : World} {B b LB : Nat} {gs : List Gm.Gate} (h : GA w B b gs) (hL : Lvls w LB) (hLB : LB ≤ w.heap.size) {A : Option Addr} {c : Nat} {x y : Nat} (gx : Gm.has gs x) (gy : Gm.has gs y) (hp : PartsAt w B A [[x], [y]]) (hn : gs.length ≤ 90000) :
    Calls Tryd.prog 17 #[.pointer (some ⟨b, 0, none⟩), .string ⟨#[120, 111, 114]⟩, .slice A 2 c] w (OfP w B b gs (3) (1) (fun inp => [Gm.ev inp gs x != Gm.ev inp gs y]) (fun _ => false)) := by
  obtain ⟨ad, hA, hadlt⟩ : ∃ ad, A = some ad ∧ ad.block < w.heap.size := by
    obtain ⟨ad, o, hA, ho, _, _⟩ := hp; exact ⟨ad, hA, lt_of_heap ho⟩
  subst hA
  have HAD := Lib.hid hadlt
  have HOK := Lib.hid (show ∀ zs ∈ [[x], [y]], PartOk gs zs from parts_ok2 (.one gx) (.one gy))
  obtain ⟨WA, hWA⟩ : ∃ WA, WA = ((w.alloc (.cells #[.slice none 0 0] 28)).alloc (.cells #[.int .i64 0] 29)).alloc (.cells #[.nilIface] 31) := ⟨_, rfl⟩
  have hba : Below w.heap.size w WA := by rw [hWA]; exact (((Below.refl _ _).alloc (Nat.le_refl _) _).alloc (by simp) _).alloc (by simp; omega) _
  have b6 : Blk WA w.heap.size 28 #[.slice none 0 0] := by rw [hWA]; exact ((Blk.new w _ _).alloc _).alloc _
  have b7 : Blk WA (w.heap.size + 1) 29 #[.int .i64 0] := by
    rw [hWA]; have := (Blk.new (w.alloc (.cells #[.slice none 0 0] 28)) 29 #[.int .i64 0]).alloc (.cells #[.nilIface] 31); simpa using this
  have b8 : Blk WA (w.heap.size + 2) 31 #[.nilIface] := by
    rw [hWA]; have := Blk.new ((w.alloc (.cells #[.slice none 0 0] 28)).alloc (.cells #[.int .i64 0] 29)) 31 #[.nilIface]; simpa using this
  have hsa : WA.heap.size = w.heap.size + 3 := by rw [hWA]; simp
  have CS := Lib.hid (show Calls Tryd.prog 41 #[.string ⟨#[120, 111, 114]⟩, .slice (some ad) 2 c] WA (ShP WA true) from by
    have hl : Lens WA (some ad) [1, 1] := by have hq := (hp.new hba).lens; simpa [] using hq
    have hs := shape_xor (c := c) (hL.below hba hLB) (by omega) hl (b0 := true) rfl (b1 := true) rfl
    rwa [show (true && true) = true from rfl] at hs)
  have HPW := Lib.hid hp
  have HPA := Lib.hid (hp.new hba)
  have HGA := Lib.hid (h.new hba)
  have HBA := Lib.hid hba
  have HB678 := Lib.hid (And.intro b6 (And.intro b7 b8))
  have HWA := Lib.hid hWA
  have HSA := Lib.hid hsa
  have HNL := Lib.hid hn
  clear h hL hp hba b6 b7 b8 hWA hsa hn hadlt
  have hmf : ∀ (fn : Fn) (first cap : Array Value) (w : World), (Instr.makeFunc fn first cap).run Tryd.prog w = .ok (.func fn first cap) w := fun _ _ _ _ => rfl
  go_enter_defers Tryd.func17, Tryd.ntmps17
  go_wp2_with fail
  rw [← HWA.out]
  refine CS.out.mono ?_
  rintro e w1 ⟨rfl, hb⟩
  have HP1 := Lib.hid (HPA.out.new hb)
  have HG1 := Lib.hid (HGA.out.new hb)
  have HB1 := Lib.hid hb
  obtain ⟨ad', o, hA', _, _, hcell⟩ := HPA.out.new hb
  obtain rfl : ad = ad' := by injection hA'
  have HCL := Lib.hid hcell
  clear hb hcell hA'
  go_wp2_with fail
  go_loop [21] (fun iv => LcR 2 iv) (fun iv => 2 - (intOf iv).toNat)
  case atStart => exact ⟨0, by omega, rfl⟩
  case round =>
    obtain ⟨k0, hk, rfl⟩ := hrel
    by_cases hk2 : k0 < 2
    · obtain ⟨zs, hz⟩ : ∃ zs, [[x], [y]][k0]? = some zs := ⟨_, List.getElem?_eq_getElem (by simpa using hk2)⟩
      have hzh := HOK.out zs (List.mem_of_getElem? hz)
      obtain ⟨Ai, ci, hci, hh⟩ := HCL.out k0 zs hz
      obtain ⟨adz, rfl⟩ := hh.form (by have := hzh.2.1; omega)
      have HH := Lib.hid hh
      have HZ := Lib.hid hzh
      obtain ⟨m, hm⟩ : ∃ m, zs.length = m := ⟨_, rfl⟩
      have hm1 : 1 ≤ m ∧ m ≤ 8 := by rw [← hm]; exact hzh.2
      obtain ⟨hm1, hm8⟩ := hm1
      rw [hm] at hci
      have HM := Lib.hid hm
      clear hz hh hzh hm
      go_wp2_with fail
      go_loop [27] (fun jv => LcR m jv) (fun jv => m - (intOf jv).toNat)
      case atStart => exact ⟨0, by omega, rfl⟩
      try case atStart => exact ⟨0, by omega, rfl⟩
      case round =>
        obtain ⟨j, hj, rfl⟩ := hrel
        by_cases hj8 : j < m
        · obtain ⟨x, hx⟩ : ∃ x, zs[j]? = some x := ⟨_, List.getElem?_eq_getElem (by rw [HM.out]; exact hj8)⟩
          have cx := HH.out.at_ hx
          have CX := Lib.hid (has_lit HG1.out (HZ.out.1 x (List.mem_of_getElem? hx)) (Nat.le_trans HNL.out (by omega)))
          clear hx
          go_wp2_with fail
          refine CX.out.mono ?_
          rintro e w' ⟨rfl, rfl⟩
          go_wp2_with fail
          go_round
          case rel => exact ⟨j + 1, by omega, by go_num⟩
          case measure => simp [intOf]; omega
        · obtain rfl : j = m := by omega
          go_wp2_with fail
          go_round
          case rel => exact ⟨k0 + 1, by omega, by go_num⟩
          case measure => simp [intOf]; omega
    · obtain rfl : k0 = 2 := by omega
      obtain ⟨A0, c0, h0, hh0⟩ := HCL.out 0 ([x]) rfl
      simp only [List.length_cons, List.length_nil] at h0 hh0
      obtain ⟨ae0, rfl⟩ := hh0.form (by omega)
      obtain ⟨A1, c1, h1, hh1⟩ := HCL.out 1 ([y]) rfl
      simp only [List.length_cons, List.length_nil] at h1 hh1
      obtain ⟨ae1, rfl⟩ := hh1.form (by omega)
      obtain ⟨b6, b7, b8⟩ := HB678.out
      have b6' := b6.below HB1.out (by rw [HSA.out]; omega)
      have b7' := b7.below HB1.out (by rw [HSA.out]; omega)
      have b8' := b8.below HB1.out (by rw [HSA.out]; omega)
      obtain ⟨W2, hW2⟩ : ∃ W2, W2 = (w1.alloc (.cells #[.pointer (some ⟨b, 0, none⟩)] 106)).drew := ⟨_, rfl⟩
      have b13 : Blk W2 w1.heap.size 106 #[.pointer (some ⟨b, 0, none⟩)] := by rw [hW2]; exact (Blk.new w1 _ _).drew
      have hb12 : Below w1.heap.size w1 W2 := by rw [hW2]; exact below_drewN ((Below.refl _ _).alloc (Nat.le_refl _) _) 1
      have hs1 := HB1.out.size
      have hsa := HSA.out
      have HBW2 := Lib.hid (show Below w.heap.size w W2 from HBA.out.trans ((HB1.out.trans (hb12.mono hs1)).mono (by omega)))
      have hbw2 := HBW2.out
      have HB678 := Lib.hid (And.intro (b6'.below hb12 b6'.lt) (And.intro (b7'.below hb12 b7'.lt) (b8'.below hb12 b8'.lt)))
      have hpw := HP1.out.new hb12
      have HAE0 := Lib.hid (show ae0.block < w.heap.size from by
        obtain ⟨ad2, o2, hA2, _, _, hcell2⟩ := HPW.out
        obtain rfl : ad = ad2 := by injection hA2
        obtain ⟨B0, d0, r1, r2⟩ := hcell2 0 _ rfl
        have r3 := (HBA.out.cell (World.block_lt_of_cell? _ _ r1)).trans r1
        have r4 := (HB1.out.cell (World.block_lt_of_cell? _ _ r3)).trans r3
        have r5 : some ae0 = B0 := by have := h0.symm.trans r4; simp only [Option.some.injEq, Value.slice.injEq] at this; exact this.1
        subst r5
        exact World.block_lt_of_cell? _ _ (r2.at_ (k := 0) rfl))
      have HAE1 := Lib.hid (show ae1.block < w.heap.size from by
        obtain ⟨ad2, o2, hA2, _, _, hcell2⟩ := HPW.out
        obtain rfl : ad = ad2 := by injection hA2
        obtain ⟨B0, d0, r1, r2⟩ := hcell2 1 _ rfl
        have r3 := (HBA.out.cell (World.block_lt_of_cell? _ _ r1)).trans r1
        have r4 := (HB1.out.cell (World.block_lt_of_cell? _ _ r3)).trans r3
        have r5 : some ae1 = B0 := by have := h1.symm.trans r4; simp only [Option.some.injEq, Value.slice.injEq] at this; exact this.1
        subst r5
        exact World.block_lt_of_cell? _ _ (r2.at_ (k := 0) rfl))
      have HS := Lib.hid (show ∀ w' : World, Chg (GT B) W2 w' → w'.cell? ⟨w1.heap.size, 0, none⟩ = some (.pointer (some ⟨b, 0, none⟩)) ∧ w'.cell? ad = some (.slice (some ae0) 1 c0) ∧ w'.cell? ⟨ad.block, ad.off + 1, none⟩ = some (.slice (some ae1) 1 c1) ∧ w'.cell? ae0 = some (.int .i64 (x : Nat)) ∧ w'.cell? ae1 = some (.int .i64 (y : Nat)) from fun w' hc => ⟨(box_gt b13 hc).cell 0, (hpw.same hc 0).trans ((hb12.cell (World.block_lt_of_cell? _ _ h0)).trans h0), (hpw.same hc 1).trans ((hb12.cell (World.block_lt_of_cell? _ _ h1)).trans h1), ((hh0.new hb12).gt hc).at_ (k := 0) rfl, ((hh1.new hb12).gt hc).at_ (k := 0) rfl⟩)
      have HKS := Lib.hid (show ∀ w' w'' : World, (∀ p : Addr, p.block < w.heap.size ∨ w.heap.size + 3 ≤ p.block → w''.cell? p = w'.cell? p) → (w'.cell? ⟨w1.heap.size, 0, none⟩ = some (.pointer (some ⟨b, 0, none⟩)) ∧ w'.cell? ad = some (.slice (some ae0) 1 c0) ∧ w'.cell? ⟨ad.block, ad.off + 1, none⟩ = some (.slice (some ae1) 1 c1) ∧ w'.cell? ae0 = some (.int .i64 (x : Nat)) ∧ w'.cell? ae1 = some (.int .i64 (y : Nat))) → w''.cell? ⟨w1.heap.size, 0, none⟩ = some (.pointer (some ⟨b, 0, none⟩)) ∧ w''.cell? ad = some (.slice (some ae0) 1 c0) ∧ w''.cell? ⟨ad.block, ad.off + 1, none⟩ = some (.slice (some ae1) 1 c1) ∧ w''.cell? ae0 = some (.int .i64 (x : Nat)) ∧ w''.cell? ae1 = some (.int .i64 (y : Nat)) from fun w' w'' hk h => by
        obtain ⟨q0, q1, q2, q3, q4⟩ := h
        exact ⟨(hk _ (.inr (by show w.heap.size + 3 ≤ w1.heap.size; omega))).trans q0, (hk _ (.inl (by show ad.block < w.heap.size; exact HAD.out))).trans q1, (hk _ (.inl (by show ad.block < w.heap.size; exact HAD.out))).trans q2, (hk _ (.inl HAE0.out)).trans q3, (hk _ (.inl HAE1.out)).trans q4⟩)
      have hg2 := HG1.out.new hb12
      have hh02 := hh0.new hb12
      have hh12 := hh1.new hb12
      have CI := Lib.hid ((bools_xor hg2 (by have := HNL.out; omega) gx gy).mono (rp_lg (madeL_of (fun inp => Gm.comes_xor hg2.wf gx gy) (Gm.orOf_len ..))))
      have HBX := Lib.hid b13
      have HG2 := Lib.hid hg2
      have HS1 := Lib.hid (And.intro hs1 hsa)
      have HW2 := Lib.hid hW2
      clear hpw hg2 hs1 hsa b6 b7 b8 b6' b7' b8' hW2 b13 hb12 hbw2 h0 hh0 hh02 h1 hh1 hh12
      go_wp2_with fail
      refine wp_region_seq (S := fun w' => w'.cell? ⟨w1.heap.size, 0, none⟩ = some (.pointer (some ⟨b, 0, none⟩)) ∧ w'.cell? ad = some (.slice (some ae0) 1 c0) ∧ w'.cell? ⟨ad.block, ad.off + 1, none⟩ = some (.slice (some ae1) 1 c1) ∧ w'.cell? ae0 = some (.int .i64 (x : Nat)) ∧ w'.cell? ae1 = some (.int .i64 (y : Nat))) [(0, false), (1, false), (2, false), (3, false), (4, false), (5, false), (6, false), (7, false), (8, false), (9, false), (10, false), (11, false), (12, true), (13, true), (14, true), (15, true), (16, true)] (by kernel_rfl) (by kernel_rfl) (by kernel_rfl) (by rw [← HW2.out]; exact HS.out _ (Chg.refl _ _)) ?_
      rw [← HW2.out]
      iterate 12 (refine seq_take _ _ rfl (by kernel_rfl) (fun wv hv => by obtain ⟨hv1, hv2, hv3, hv4, hv5⟩ := hv; go_simp; try with_reducible rfl) ?_; simp only [Act.put, List.getElem_toArray, List.getElem_cons_zero, List.getElem_cons_succ, List.setIfInBounds_toArray, List.set_cons_zero, List.set_cons_succ])
      refine seq_act _ rfl (fun K hK => ?_)
      go_simp
      refine CI.out.mono ?_
      rintro e w3 ⟨gs3, l3, rfl, h1, h2, h4⟩
      have HC3 := Lib.hid h2
      have HS3 := Lib.hid (HS.out _ h2)
      go_simp
      refine hK _ _ (HS3.out) ?_
      clear hK K
      obtain ⟨W4, hW4⟩ : ∃ W4, W4 = w3.alloc (.cells #[.int .i64 (l3 : Nat)] 29) := ⟨_, rfl⟩
      have HGX := Lib.hid (show GA W4 B b gs3 by rw [hW4]; exact h1.alloc1 _)
      have h24 : Chg (GT B) W2 W4 := by rw [hW4]; exact h2.alloc _
      have HCX := Lib.hid ((Chg.of_new (S := GT B) HBW2.out).trans h24)
      have HOX := Lib.hid (show W4.ownsRow w3.heap.size 29 1 (.slice (some ⟨w3.heap.size, 0, none⟩) 1 1) 1 (natVals [l3]) by rw [hW4]; exact own_one w3 _)
      have HM := Lib.hid (h4.one)
      have HSX := Lib.hid (HS.out _ h24)
      have HOB := Lib.hid (show w.heap.size + 3 ≤ w3.heap.size from by have := HB678.out.2.2.lt; have := h2.size; omega)
      have HB3 := Lib.hid (show Blk W4 w.heap.size 28 #[.slice none 0 0] ∧ Blk W4 (w.heap.size + 1) 29 #[.int .i64 0] ∧ Blk W4 (w.heap.size + 2) 31 #[.nilIface] from
        ⟨HB678.out.1.chg h24 fun hs => by rcases hs.2 with e | e | e <;> simp [elemOf] at e, HB678.out.2.1.chg h24 fun hs => by rcases hs.2 with e | e | e <;> simp [elemOf] at e, HB678.out.2.2.chg h24 fun hs => by rcases hs.2 with e | e | e <;> simp [elemOf] at e⟩)
      have HW4 := Lib.hid hW4
      clear h1 h2 h4 h24 hW4
      refine seq_act _ rfl (fun K hK => ?_)
      go_simp
      go_simp
      refine hK _ _ ((by rw [← HW4.out]; exact HSX.out)) ?_
      clear hK K
      rw [← HW4.out]
      obtain ⟨W7, hW7⟩ : ∃ W7, W7 = W4.setCell ⟨w.heap.size, 0, none⟩ (.slice (some ⟨w3.heap.size, 0, none⟩) 1 1) := ⟨_, rfl⟩
      obtain ⟨W8, hW8⟩ : ∃ W8, W8 = W7.setCell ⟨w.heap.size + 1, 0, none⟩ (.int .i64 0) := ⟨_, rfl⟩
      obtain ⟨W9, hW9⟩ : ∃ W9, W9 = W8.setCell ⟨w.heap.size + 2, 0, none⟩ .nilIface := ⟨_, rfl⟩
      have ht := tail3 HB3.out.1 HB3.out.2.1 HB3.out.2.2 hW7 hW8 hW9
      have HT := Lib.hid ht
      have cc6 := ht.c6
      have ff6 := ht.f6
      have cc7 := ht.c7
      have ff7 := ht.f7
      have cc8 := ht.c8
      have ff8 := ht.f8
      have HW7 := Lib.hid hW7
      have HW8 := Lib.hid hW8
      have HW9 := Lib.hid hW9
      clear hW7 hW8 hW9 ht
      refine seq_act _ rfl (fun K hK => ?_)
      go_simp
      refine hK _ _ ((by rw [← HW7.out]; exact HKS.out _ _ HT.out.k7 HSX.out)) ?_
      clear hK K
      try simp only [Act.put, List.getElem_toArray, List.getElem_cons_zero, List.getElem_cons_succ, List.setIfInBounds_toArray, List.set_cons_zero, List.set_cons_succ]
      refine seq_act _ rfl (fun K hK => ?_)
      go_simp
      refine hK _ _ ((by rw [← HW7.out, ← HW8.out]; exact HKS.out _ _ HT.out.k8 HSX.out)) ?_
      clear hK K
      try simp only [Act.put, List.getElem_toArray, List.getElem_cons_zero, List.getElem_cons_succ, List.setIfInBounds_toArray, List.set_cons_zero, List.set_cons_succ]
      refine seq_act _ rfl (fun K hK => ?_)
      go_simp
      refine hK _ _ ((by rw [← HW7.out, ← HW8.out, ← HW9.out]; exact HKS.out _ _ HT.out.k9 HSX.out)) ?_
      clear hK K
      try simp only [Act.put, List.getElem_toArray, List.getElem_cons_zero, List.getElem_cons_succ, List.setIfInBounds_toArray, List.set_cons_zero, List.set_cons_succ]
      refine seq_nil ?_
      rw [← HW7.out, ← HW8.out, ← HW9.out]
      clear cc6 ff6 cc7 ff7 cc8 ff8
      go_wp2_with fail
      refine leaves_cons (f := 42) (args := #[.pointer (some ⟨w.heap.size, 0, none⟩), .pointer (some ⟨w.heap.size + 1, 0, none⟩), .pointer (some ⟨w.heap.size + 2, 0, none⟩)]) (by simp) (by simp [go_sem]) ?_
      refine (of_idle _ _ _ _).mono ?_
      rintro e u' w'' ⟨rfl, rfl, rfl⟩
      have x6 := HT.out.e6.cell 0
      have x7 := HT.out.e7.cell 0
      have x8 := HT.out.e8.cell 0
      have HKEY := Lib.hid (of_key HT.out HGX.out HCX.out HOX.out (by have := HBW2.out.size; have := HB3.out.2.2.lt; have := HOB.out; omega) HM.out)
      simp [Leaves, settle, results, Tryd.results17, go_sem, x6, x7, x8]
      exact HKEY.out
set_option maxRecDepth 100000 in
set_option maxHeartbeats 4000000 in
theorem of_imp {w : World} {B b LB : Nat} {gs : List Gm.Gate} (h : GA w B b gs) (hL : Lvls w LB) (hLB : LB ≤ w.heap.size) {A : Option Addr} {c : Nat} {x y : Nat} (gx : Gm.has gs x) (gy : Gm.has gs y) (hp : PartsAt w B A [[x], [y]]) (hn : gs.length ≤ 90000) :
    Calls Tryd.prog 17 #[.pointer (some ⟨b, 0, none⟩), .string ⟨#[61, 62]⟩, .slice A 2 c] w (OfP w B b gs (3) (1) (fun inp => [Gm.ev inp gs (Gm.notL x) || Gm.ev inp gs y]) (fun _ => false)) := by
  obtain ⟨ad, hA, hadlt⟩ : ∃ ad, A = some ad ∧ ad.block < w.heap.size := by
    obtain ⟨ad, o, hA, ho, _, _⟩ := hp; exact ⟨ad, hA, lt_of_heap ho⟩
  subst hA
  have HAD := Lib.hid hadlt
  have HOK := Lib.hid (show ∀ zs ∈ [[x], [y]], PartOk gs zs from parts_ok2 (.one gx) (.one gy))
  obtain ⟨WA, hWA⟩ : ∃ WA, WA = ((w.alloc (.cells #[.slice none 0 0] 28)).alloc (.cells #[.int .i64 0] 29)).alloc (.cells #[.nilIface] 31) := ⟨_, rfl⟩
  have hba : Below w.heap.size w WA := by rw [hWA]; exact (((Below.refl _ _).alloc (Nat.le_refl _) _).alloc (by simp) _).alloc (by simp; omega) _
  have b6 : Blk WA w.heap.size 28 #[.slice none 0 0] := by rw [hWA]; exact ((Blk.new w _ _).alloc _).alloc _
  have b7 : Blk WA (w.heap.size + 1) 29 #[.int .i64 0] := by
    rw [hWA]; have := (Blk.new (w.alloc (.cells #[.slice none 0 0] 28)) 29 #[.int .i64 0]).alloc (.cells #[.nilIface] 31); simpa using this
  have b8 : Blk WA (w.heap.size + 2) 31 #[.nilIface] := by
    rw [hWA]; have := Blk.new ((w.alloc (.cells #[.slice none 0 0] 28)).alloc (.cells #[.int .i64 0] 29)) 31 #[.nilIface]; simpa using this
  have hsa : WA.heap.size = w.heap.size + 3 := by rw [hWA]; simp
  have CS := Lib.hid (show Calls Tryd.prog 41 #[.string ⟨#[61, 62]⟩, .slice (some ad) 2 c] WA (ShP WA true) from by
    have hl : Lens WA (some ad) [1, 1] := by have hq := (hp.new hba).lens; simpa [] using hq
    have hs := shape_imp (c := c) (hL.below hba hLB) (by omega) hl (b0 := true) rfl (b1 := true) rfl
    rwa [show (true && true) = true from rfl] at hs)
  have HPW := Lib.hid hp
  have HPA := Lib.hid (hp.new hba)
  have HGA := Lib.hid (h.new hba)
  have HBA := Lib.hid hba
  have HB678 := Lib.hid (And.intro b6 (And.intro b7 b8))
  have HWA := Lib.hid hWA
  have HSA := Lib.hid hsa
  have HNL := Lib.hid hn
  clear h hL hp hba b6 b7 b8 hWA hsa hn hadlt
  have hmf : ∀ (fn : Fn) (first cap : Array Value) (w : World), (Instr.makeFunc fn first cap).run Tryd.prog w = .ok (.func fn first cap) w := fun _ _ _ _ => rfl
  go_enter_defers Tryd.func17, Tryd.ntmps17
  go_wp2_with fail
  rw [← HWA.out]
  refine CS.out.mono ?_
  rintro e w1 ⟨rfl, hb⟩
  have HP1 := Lib.hid (HPA.out.new hb)
  have HG1 := Lib.hid (HGA.out.new hb)
  have HB1 := Lib.hid hb
  obtain ⟨ad', o, hA', _, _, hcell⟩ := HPA.out.new hb
  obtain rfl : ad = ad' := by injection hA'
  have HCL := Lib.hid hcell
  clear hb hcell hA'
  go_wp2_with fail
  go_loop [21] (fun iv => LcR 2 iv) (fun iv => 2 - (intOf iv).toNat)
  case atStart => exact ⟨0, by omega, rfl⟩
  case round =>
    obtain ⟨k0, hk, rfl⟩ := hrel
    by_cases hk2 : k0 < 2
    · obtain ⟨zs, hz⟩ : ∃ zs, [[x], [y]][k0]? = some zs := ⟨_, List.getElem?_eq_getElem (by simpa using hk2)⟩
      have hzh := HOK.out zs (List.mem_of_getElem? hz)
      obtain ⟨Ai, ci, hci, hh⟩ := HCL.out k0 zs hz
      obtain ⟨adz, rfl⟩ := hh.form (by have := hzh.2.1; omega)
      have HH := Lib.hid hh
      have HZ := Lib.hid hzh
      obtain ⟨m, hm⟩ : ∃ m, zs.length = m := ⟨_, rfl⟩
      have hm1 : 1 ≤ m ∧ m ≤ 8 := by rw [← hm]; exact hzh.2
      obtain ⟨hm1, hm8⟩ := hm1
      rw [hm] at hci
      have HM := Lib.hid hm
      clear hz hh hzh hm
      go_wp2_with fail
      go_loop [27] (fun jv => LcR m jv) (fun jv => m - (intOf jv).toNat)
      case atStart => exact ⟨0, by omega, rfl⟩
      try case atStart => exact ⟨0, by omega, rfl⟩
      case round =>
        obtain ⟨j, hj, rfl⟩ := hrel
        by_cases hj8 : j < m
        · obtain ⟨x, hx⟩ : ∃ x, zs[j]? = some x := ⟨_, List.getElem?_eq_getElem (by rw [HM.out]; exact hj8)⟩
          have cx := HH.out.at_ hx
          have CX := Lib.hid (has_lit HG1.out (HZ.out.1 x (List.mem_of_getElem? hx)) (Nat.le_trans HNL.out (by omega)))
          clear hx
          go_wp2_with fail
          refine CX.out.mono ?_
          rintro e w' ⟨rfl, rfl⟩
          go_wp2_with fail
          go_round
          case rel => exact ⟨j + 1, by omega, by go_num⟩
          case measure => simp [intOf]; omega
        · obtain rfl : j = m := by omega
          go_wp2_with fail
          go_round
          case rel => exact ⟨k0 + 1, by omega, by go_num⟩
          case measure => simp [intOf]; omega
    · obtain rfl : k0 = 2 := by omega
      obtain ⟨A0, c0, h0, hh0⟩ := HCL.out 0 ([x]) rfl
      simp only [List.length_cons, List.length_nil] at h0 hh0
      obtain ⟨ae0, rfl⟩ := hh0.form (by omega)
      obtain ⟨A1, c1, h1, hh1⟩ := HCL.out 1 ([y]) rfl
      simp only [List.length_cons, List.length_nil] at h1 hh1
      obtain ⟨ae1, rfl⟩ := hh1.form (by omega)
      obtain ⟨b6, b7, b8⟩ := HB678.out
      have b6' := b6.below HB1.out (by rw [HSA.out]; omega)
      have b7' := b7.below HB1.out (by rw [HSA.out]; omega)
      have b8' := b8.below HB1.out (by rw [HSA.out]; omega)
      obtain ⟨W2, hW2⟩ : ∃ W2, W2 = (w1.alloc (.cells #[.pointer (some ⟨b, 0, none⟩)] 106)).drew := ⟨_, rfl⟩
      have b13 : Blk W2 w1.heap.size 106 #[.pointer (some ⟨b, 0, none⟩)] := by rw [hW2]; exact (Blk.new w1 _ _).drew
      have hb12 : Below w1.heap.size w1 W2 := by rw [hW2]; exact below_drewN ((Below.refl _ _).alloc (Nat.le_refl _) _) 1
      have hs1 := HB1.out.size
      have hsa := HSA.out
      have HBW2 := Lib.hid (show Below w.heap.size w W2 from HBA.out.trans ((HB1.out.trans (hb12.mono hs1)).mono (by omega)))
      have hbw2 := HBW2.out
      have HB678 := Lib.hid (And.intro (b6'.below hb12 b6'.lt) (And.intro (b7'.below hb12 b7'.lt) (b8'.below hb12 b8'.lt)))
      have hpw := HP1.out.new hb12
      have HAE0 := Lib.hid (show ae0.block < w.heap.size from by
        obtain ⟨ad2, o2, hA2, _, _, hcell2⟩ := HPW.out
        obtain rfl : ad = ad2 := by injection hA2
        obtain ⟨B0, d0, r1, r2⟩ := hcell2 0 _ rfl
        have r3 := (HBA.out.cell (World.block_lt_of_cell? _ _ r1)).trans r1
        have r4 := (HB1.out.cell (World.block_lt_of_cell? _ _ r3)).trans r3
        have r5 : some ae0 = B0 := by have := h0.symm.trans r4; simp only [Option.some.injEq, Value.slice.injEq] at this; exact this.1
        subst r5
        exact World.block_lt_of_cell? _ _ (r2.at_ (k := 0) rfl))
      have HAE1 := Lib.hid (show ae1.block < w.heap.size from by
        obtain ⟨ad2, o2, hA2, _, _, hcell2⟩ := HPW.out
        obtain rfl : ad = ad2 := by injection hA2
        obtain ⟨B0, d0, r1, r2⟩ := hcell2 1 _ rfl
        have r3 := (HBA.out.cell (World.block_lt_of_cell? _ _ r1)).trans r1
        have r4 := (HB1.out.cell (World.block_lt_of_cell? _ _ r3)).trans r3
        have r5 : some ae1 = B0 := by have := h1.symm.trans r4; simp only [Option.some.injEq, Value.slice.injEq] at this; exact this.1
        subst r5
        exact World.block_lt_of_cell? _ _ (r2.at_ (k := 0) rfl))
      have HS := Lib.hid (show ∀ w' : World, Chg (GT B) W2 w' → w'.cell? ⟨w1.heap.size, 0, none⟩ = some (.pointer (some ⟨b, 0, none⟩)) ∧ w'.cell? ad = some (.slice (some ae0) 1 c0) ∧ w'.cell? ⟨ad.block, ad.off + 1, none⟩ = some (.slice (some ae1) 1 c1) ∧ w'.cell? ae0 = some (.int .i64 (x : Nat)) ∧ w'.cell? ae1 = some (.int .i64 (y : Nat)) from fun w' hc => ⟨(box_gt b13 hc).cell 0, (hpw.same hc 0).trans ((hb12.cell (World.block_lt_of_cell? _ _ h0)).trans h0), (hpw.same hc 1).trans ((hb12.cell (World.block_lt_of_cell? _ _ h1)).trans h1), ((hh0.new hb12).gt hc).at_ (k := 0) rfl, ((hh1.new hb12).gt hc).at_ (k := 0) rfl⟩)
      have HKS := Lib.hid (show ∀ w' w'' : World, (∀ p : Addr, p.block < w.heap.size ∨ w.heap.size + 3 ≤ p.block → w''.cell? p = w'.cell? p) → (w'.cell? ⟨w1.heap.size, 0, none⟩ = some (.pointer (some ⟨b, 0, none⟩)) ∧ w'.cell? ad = some (.slice (some ae0) 1 c0) ∧ w'.cell? ⟨ad.block, ad.off + 1, none⟩ = some (.slice (some ae1) 1 c1) ∧ w'.cell? ae0 = some (.int .i64 (x : Nat)) ∧ w'.cell? ae1 = some (.int .i64 (y : Nat))) → w''.cell? ⟨w1.heap.size, 0, none⟩ = some (.pointer (some ⟨b, 0, none⟩)) ∧ w''.cell? ad = some (.slice (some ae0) 1 c0) ∧ w''.cell? ⟨ad.block, ad.off + 1, none⟩ = some (.slice (some ae1) 1 c1) ∧ w''.cell? ae0 = some (.int .i64 (x : Nat)) ∧ w''.cell? ae1 = some (.int .i64 (y : Nat)) from fun w' w'' hk h => by
        obtain ⟨q0, q1, q2, q3, q4⟩ := h
        exact ⟨(hk _ (.inr (by show w.heap.size + 3 ≤ w1.heap.size; omega))).trans q0, (hk _ (.inl (by show ad.block < w.heap.size; exact HAD.out))).trans q1, (hk _ (.inl (by show ad.block < w.heap.size; exact HAD.out))).trans q2, (hk _ (.inl HAE0.out)).trans q3, (hk _ (.inl HAE1.out)).trans q4⟩)
      have hg2 := HG1.out.new hb12
      have hh02 := hh0.new hb12
      have hh12 := hh1.new hb12
      have CI := Lib.hid ((bools_imp hg2 (by have := HNL.out; omega) gx gy).mono (rp_lg (madeL_of (fun inp => Gm.comes_or hg2.wf (Gm.has_not gx) gy) (Nat.le_trans (Gm.orG_len ..) (by omega)))))
      have HBX := Lib.hid b13
      have HG2 := Lib.hid hg2
      have HS1 := Lib.hid (And.intro hs1 hsa)
      have HW2 := Lib.hid hW2
      clear hpw hg2 hs1 hsa b6 b7 b8 b6' b7' b8' hW2 b13 hb12 hbw2 h0 hh0 hh02 h1 hh1 hh12
      go_wp2_with fail
      refine wp_region_seq (S := fun w' => w'.cell? ⟨w1.heap.size, 0, none⟩ = some (.pointer (some ⟨b, 0, none⟩)) ∧ w'.cell? ad = some (.slice (some ae0) 1 c0) ∧ w'.cell? ⟨ad.block, ad.off + 1, none⟩ = some (.slice (some ae1) 1 c1) ∧ w'.cell? ae0 = some (.int .i64 (x : Nat)) ∧ w'.cell? ae1 = some (.int .i64 (y : Nat))) [(0, false), (1, false), (2, false), (3, false), (4, false), (5, false), (6, false), (7, false), (8, false), (9, false), (10, false), (11, false), (12, true), (13, true), (14, true), (15, true), (16, true)] (by kernel_rfl) (by kernel_rfl) (by kernel_rfl) (by rw [← HW2.out]; exact HS.out _ (Chg.refl _ _)) ?_
      rw [← HW2.out]
      iterate 12 (refine seq_take _ _ rfl (by kernel_rfl) (fun wv hv => by obtain ⟨hv1, hv2, hv3, hv4, hv5⟩ := hv; go_simp; try with_reducible rfl) ?_; simp only [Act.put, List.getElem_toArray, List.getElem_cons_zero, List.getElem_cons_succ, List.setIfInBounds_toArray, List.set_cons_zero, List.set_cons_succ])
      refine seq_act _ rfl (fun K hK => ?_)
      go_simp
      refine CI.out.mono ?_
      rintro e w3 ⟨gs3, l3, rfl, h1, h2, h4⟩
      have HC3 := Lib.hid h2
      have HS3 := Lib.hid (HS.out _ h2)
      go_simp
      refine hK _ _ (HS3.out) ?_
      clear hK K
      obtain ⟨W4, hW4⟩ : ∃ W4, W4 = w3.alloc (.cells #[.int .i64 (l3 : Nat)] 29) := ⟨_, rfl⟩
      have HGX := Lib.hid (show GA W4 B b gs3 by rw [hW4]; exact h1.alloc1 _)
      have h24 : Chg (GT B) W2 W4 := by rw [hW4]; exact h2.alloc _
      have HCX := Lib.hid ((Chg.of_new (S := GT B) HBW2.out).trans h24)
      have HOX := Lib.hid (show W4.ownsRow w3.heap.size 29 1 (.slice (some ⟨w3.heap.size, 0, none⟩) 1 1) 1 (natVals [l3]) by rw [hW4]; exact own_one w3 _)
      have HM := Lib.hid (h4.one)
      have HSX := Lib.hid (HS.out _ h24)
      have HOB := Lib.hid (show w.heap.size + 3 ≤ w3.heap.size from by have := HB678.out.2.2.lt; have := h2.size; omega)
      have HB3 := Lib.hid (show Blk W4 w.heap.size 28 #[.slice none 0 0] ∧ Blk W4 (w.heap.size + 1) 29 #[.int .i64 0] ∧ Blk W4 (w.heap.size + 2) 31 #[.nilIface] from
        ⟨HB678.out.1.chg h24 fun hs => by rcases hs.2 with e | e | e <;> simp [elemOf] at e, HB678.out.2.1.chg h24 fun hs => by rcases hs.2 with e | e | e <;> simp [elemOf] at e, HB678.out.2.2.chg h24 fun hs => by rcases hs.2 with e | e | e <;> simp [elemOf] at e⟩)
      have HW4 := Lib.hid hW4
      clear h1 h2 h4 h24 hW4
      refine seq_act _ rfl (fun K hK => ?_)
      go_simp
      go_simp
      refine hK _ _ ((by rw [← HW4.out]; exact HSX.out)) ?_
      clear hK K
      rw [← HW4.out]
      obtain ⟨W7, hW7⟩ : ∃ W7, W7 = W4.setCell ⟨w.heap.size, 0, none⟩ (.slice (some ⟨w3.heap.size, 0, none⟩) 1 1) := ⟨_, rfl⟩
      obtain ⟨W8, hW8⟩ : ∃ W8, W8 = W7.setCell ⟨w.heap.size + 1, 0, none⟩ (.int .i64 0) := ⟨_, rfl⟩
      obtain ⟨W9, hW9⟩ : ∃ W9, W9 = W8.setCell ⟨w.heap.size + 2, 0, none⟩ .nilIface := ⟨_, rfl⟩
      have ht := tail3 HB3.out.1 HB3.out.2.1 HB3.out.2.2 hW7 hW8 hW9
      have HT := Lib.hid ht
      have cc6 := ht.c6
      have ff6 := ht.f6
      have cc7 := ht.c7
      have ff7 := ht.f7
      have cc8 := ht.c8
      have ff8 := ht.f8
      have HW7 := Lib.hid hW7
      have HW8 := Lib.hid hW8
      have HW9 := Lib.hid hW9
      clear hW7 hW8 hW9 ht
      refine seq_act _ rfl (fun K hK => ?_)
      go_simp
      refine hK _ _ ((by rw [← HW7.out]; exact HKS.out _ _ HT.out.k7 HSX.out)) ?_
      clear hK K
      try simp only [Act.put, List.getElem_toArray, List.getElem_cons_zero, List.getElem_cons_succ, List.setIfInBounds_toArray, List.set_cons_zero, List.set_cons_succ]
      refine seq_act _ rfl (fun K hK => ?_)
      go_simp
      refine hK _ _ ((by rw [← HW7.out, ← HW8.out]; exact HKS.out _ _ HT.out.k8 HSX.out)) ?_
      clear hK K
      try simp only [Act.put, List.getElem_toArray, List.getElem_cons_zero, List.getElem_cons_succ, List.setIfInBounds_toArray, List.set_cons_zero, List.set_cons_succ]
      refine seq_act _ rfl (fun K hK => ?_)
      go_simp
      refine hK _ _ ((by rw [← HW7.out, ← HW8.out, ← HW9.out]; exact HKS.out _ _ HT.out.k9 HSX.out)) ?_
      clear hK K
      try simp only [Act.put, List.getElem_toArray, List.getElem_cons_zero, List.getElem_cons_succ, List.setIfInBounds_toArray, List.set_cons_zero, List.set_cons_succ]
      refine seq_nil ?_
      rw [← HW7.out, ← HW8.out, ← HW9.out]
      clear cc6 ff6 cc7 ff7 cc8 ff8
      go_wp2_with fail
      refine leaves_cons (f := 42) (args := #[.pointer (some ⟨w.heap.size, 0, none⟩), .pointer (some ⟨w.heap.size + 1, 0, none⟩), .pointer (some ⟨w.heap.size + 2, 0, none⟩)]) (by simp) (by simp [go_sem]) ?_
      refine (of_idle _ _ _ _).mono ?_
      rintro e u' w'' ⟨rfl, rfl, rfl⟩
      have x6 := HT.out.e6.cell 0
      have x7 := HT.out.e7.cell 0
      have x8 := HT.out.e8.cell 0
      have HKEY := Lib.hid (of_key HT.out HGX.out HCX.out HOX.out (by have := HBW2.out.size; have := HB3.out.2.2.lt; have := HOB.out; omega) HM.out)
      simp [Leaves, settle, results, Tryd.results17, go_sem, x6, x7, x8]
      exact HKEY.out
end Go.Proofs.YtmbjhpgemphmmaaDoor
namespace Go.Proofs.YtmbjhpgemphmmaaDoor
open Go.RowKit
/-- an operator's bits -/
def resF : Nat → List (List Bool) → List Bool
  | 0, [a] => a.map (!·)
  | 1, [a] => Wp.negB a
  | 2, [c, a, b] => Wp.pickB (c.headD false) a b
  | 3, [a, b] => [a.headD false && b.headD false]
  | 4, [a, b] => [a.headD false || b.headD false]
  | 5, [a, b] => [a.headD false != b.headD false]
  | 6, [a, b] => [!a.headD false || b.headD false]
  | 7, [a, b] => [Wp.sameB a b]
  | 8, [a, b] => [!Wp.sameB a b]
  | 9, [a, b] => [Wp.lessB a b]
  | 10, [a, b] => [!Wp.lessB b a]
  | 11, [a, b] => [Wp.lessB b a]
  | 12, [a, b] => [!Wp.lessB a b]
  | 13, [a, b] => Wp.sums a b false
  | 14, [a, b] => Wp.minusB a b
  | 15, [a, b] => Wp.timesB a b
  | 16, [a, b] => Wp.sQuo a b
  | 17, [a, b] => Wp.sRem a b
  | _, _ => []
/-- does it trap? -/
def trapF : Nat → List (List Bool) → Bool
  | 16, [_, b] => Wp.sameB b (List.replicate 8 false)
  | 17, [_, b] => Wp.sameB b (List.replicate 8 false)
  | _, _ => false
/-- Of's answer -/
def OfQ (w : World) (B b : Nat) (gs : List Gm.Gate) (i : Nat) (ps : List (List Nat)) (e : Ending) (w' : World) : Prop :=
  ∃ n A c gs' outs last, e = .returned (.tuple #[.slice A n c, .int .i64 (last : Nat), .nilIface]) ∧ GA w' B b gs' ∧ Chg (GT B) w w' ∧ w'.ownsRow w.heap.size 29 1 (.slice A n c) n (natVals outs) ∧ (n = 1 ∨ n = 8) ∧
    MadeW gs gs' 1800 outs (fun inp => resF i (ps.map (evs inp gs))) ∧ MadeL gs gs' 1800 last (fun inp => trapF i (ps.map (evs inp gs)))
theorem OfP.to {w w' : World} {B b k n i : Nat} {gs : List Gm.Gate} {ps : List (List Nat)} {f : List Bool → List Bool} {g : List Bool → Bool} {e : Ending} (h : OfP w B b gs k n f g e w') (hk : k ≤ 1800) (hn : n = 1 ∨ n = 8)
    (hf : ∀ inp, f inp = resF i (ps.map (evs inp gs))) (hg : ∀ inp, g inp = trapF i (ps.map (evs inp gs))) : OfQ w B b gs i ps e w' := by
  obtain ⟨A, c, gs', outs, last, h0, h1, h2, h3, h4, h5⟩ := h
  exact ⟨n, A, c, gs', outs, last, h0, h1, h2, h3, hn, h4.to hk hf, h5.to hk hg⟩
theorem row1 {l : List (List Nat)} (h : l.length = 1) : ∃ a, l = [a] := by match l, h with | [a], _ => exact ⟨a, rfl⟩
theorem row2 {l : List (List Nat)} (h : l.length = 2) : ∃ a b, l = [a, b] := by match l, h with | [a, b], _ => exact ⟨a, b, rfl⟩
theorem row3 {l : List (List Nat)} (h : l.length = 3) : ∃ a b c, l = [a, b, c] := by match l, h with | [a, b, c], _ => exact ⟨a, b, c, rfl⟩
theorem evs_one (inp : List Bool) (gs : List Gm.Gate) (x : Nat) : (evs inp gs [x]).headD false = Gm.ev inp gs x := rfl
set_option maxHeartbeats 2000000 in
theorem of_op {w : World} {B b LB : Nat} {gs : List Gm.Gate} (h : GA w B b gs) (hL : Lvls w LB) (hLB : LB ≤ w.heap.size) {A : Option Addr} {c i : Nat} {ps : List (List Nat)} (hp : PartsAt w B A ps) (hi : i < 18) (hl : ps.length = arOf i)
    (hfit : fitB i (ps.map List.length) = true) (hall : ∀ zs ∈ ps, AllHas gs zs) (hn : gs.length ≤ 80000) :
    Calls Tryd.prog 17 #[.pointer (some ⟨b, 0, none⟩), .string (opOf i), .slice A (arOf i) c] w (OfQ w B b gs i ps) := by
  match i, hi, hl with
  | 0, _, hl =>
    obtain ⟨xs, rfl⟩ := row1 hl
    have gx := hall xs (by simp)
    have hx : xs.length = 1 := by simpa [fitB] using hfit
    exact (of_not (c := c) h hL hLB hx gx hp (by omega)).mono fun e w' hq => hq.to (by omega) (.inl rfl) (fun _ => rfl) fun _ => rfl
  | 1, _, hl =>
    obtain ⟨xs, rfl⟩ := row1 hl
    have gx := hall xs (by simp)
    have hx : xs.length = 8 := by simpa [fitB] using hfit
    exact (of_neg (c := c) h hL hLB hx gx hp (by omega)).mono fun e w' hq => hq.to (by omega) (.inr rfl) (fun _ => rfl) fun _ => rfl
  | 2, _, hl =>
    obtain ⟨xs, us, vs, rfl⟩ := row3 hl
    have hq : xs.length = 1 ∧ (us.length = 1 ∨ us.length = 8) ∧ us.length = vs.length := by simpa [fitB, and_assoc] using hfit
    obtain ⟨hx, hu, hv⟩ := hq
    obtain ⟨x, rfl⟩ := len1 hx
    have gx := hall [x] (by simp) x (by simp)
    have gu := hall us (by simp)
    have gv := hall vs (by simp)
    exact (of_if (c := c) (n := us.length) h hL hLB rfl hv.symm hu gx gu gv hp (by omega)).mono fun e w' hq => hq.to (by omega) hu (fun _ => rfl) fun _ => rfl
  | 3, _, hl =>
    obtain ⟨xs, ys, rfl⟩ := row2 hl
    have hq : xs.length = 1 ∧ ys.length = 1 := by simpa [fitB] using hfit
    obtain ⟨x, rfl⟩ := len1 hq.1
    obtain ⟨y, rfl⟩ := len1 hq.2
    have gx := hall [x] (by simp) x (by simp)
    have gy := hall [y] (by simp) y (by simp)
    exact (of_and (c := c) h hL hLB gx gy hp (by omega)).mono fun e w' hq => hq.to (by omega) (.inl rfl) (fun inp => rfl) fun _ => rfl
  | 4, _, hl =>
    obtain ⟨xs, ys, rfl⟩ := row2 hl
    have hq : xs.length = 1 ∧ ys.length = 1 := by simpa [fitB] using hfit
    obtain ⟨x, rfl⟩ := len1 hq.1
    obtain ⟨y, rfl⟩ := len1 hq.2
    have gx := hall [x] (by simp) x (by simp)
    have gy := hall [y] (by simp) y (by simp)
    exact (of_or (c := c) h hL hLB gx gy hp (by omega)).mono fun e w' hq => hq.to (by omega) (.inl rfl) (fun inp => rfl) fun _ => rfl
  | 5, _, hl =>
    obtain ⟨xs, ys, rfl⟩ := row2 hl
    have hq : xs.length = 1 ∧ ys.length = 1 := by simpa [fitB] using hfit
    obtain ⟨x, rfl⟩ := len1 hq.1
    obtain ⟨y, rfl⟩ := len1 hq.2
    have gx := hall [x] (by simp) x (by simp)
    have gy := hall [y] (by simp) y (by simp)
    exact (of_xor (c := c) h hL hLB gx gy hp (by omega)).mono fun e w' hq => hq.to (by omega) (.inl rfl) (fun inp => rfl) fun _ => rfl
  | 6, _, hl =>
    obtain ⟨xs, ys, rfl⟩ := row2 hl
    have hq : xs.length = 1 ∧ ys.length = 1 := by simpa [fitB] using hfit
    obtain ⟨x, rfl⟩ := len1 hq.1
    obtain ⟨y, rfl⟩ := len1 hq.2
    have gx := hall [x] (by simp) x (by simp)
    have gy := hall [y] (by simp) y (by simp)
    exact (of_imp (c := c) h hL hLB gx gy hp (by omega)).mono fun e w' hq => hq.to (by omega) (.inl rfl) (fun inp => (by rw [Gm.ev_not]; rfl)) fun _ => rfl
  | 7, _, hl =>
    obtain ⟨xs, ys, rfl⟩ := row2 hl
    have hq : (xs.length = 1 ∨ xs.length = 8) ∧ xs.length = ys.length := by simpa [fitB] using hfit
    have gx := hall xs (by simp)
    have gy := hall ys (by simp)
    exact (of_eq (c := c) (n := xs.length) h hL hLB rfl hq.2.symm hq.1 gx gy hp (by omega)).mono fun e w' hq2 => hq2.to (by omega) (.inl rfl) (fun inp => rfl) fun _ => rfl
  | 8, _, hl =>
    obtain ⟨xs, ys, rfl⟩ := row2 hl
    have hq : (xs.length = 1 ∨ xs.length = 8) ∧ xs.length = ys.length := by simpa [fitB] using hfit
    have gx := hall xs (by simp)
    have gy := hall ys (by simp)
    exact (of_ne (c := c) (n := xs.length) h hL hLB rfl hq.2.symm hq.1 gx gy hp (by omega)).mono fun e w' hq2 => hq2.to (by omega) (.inl rfl) (fun inp => rfl) fun _ => rfl
  | 9, _, hl =>
    obtain ⟨xs, ys, rfl⟩ := row2 hl
    have hq : xs.length = 8 ∧ ys.length = 8 := by simpa [fitB] using hfit
    have gx := hall xs (by simp)
    have gy := hall ys (by simp)
    refine (of_two (c := c) h hL hLB hp hq.1 hq.2 gx gy (by omega) (two_of 9 (by omega) (by omega)) (fun W A0 A1 c0 c1 hg hx hy => ints_lss (m := 7) hg hx hy gx gy (by show gs.length + 1795 ≤ 88000; omega) (by omega))).mono fun e w' hq2 => hq2.to (by show 72 ≤ 1800; omega) (.inl rfl) (fun inp => rfl) fun _ => rfl
  | 10, _, hl =>
    obtain ⟨xs, ys, rfl⟩ := row2 hl
    have hq : xs.length = 8 ∧ ys.length = 8 := by simpa [fitB] using hfit
    have gx := hall xs (by simp)
    have gy := hall ys (by simp)
    refine (of_two (c := c) h hL hLB hp hq.1 hq.2 gx gy (by omega) (two_of 10 (by omega) (by omega)) (fun W A0 A1 c0 c1 hg hx hy => ints_leq (m := 7) hg hx hy gx gy (by show gs.length + 1795 ≤ 88000; omega) (by omega))).mono fun e w' hq2 => hq2.to (by show 72 ≤ 1800; omega) (.inl rfl) (fun inp => rfl) fun _ => rfl
  | 11, _, hl =>
    obtain ⟨xs, ys, rfl⟩ := row2 hl
    have hq : xs.length = 8 ∧ ys.length = 8 := by simpa [fitB] using hfit
    have gx := hall xs (by simp)
    have gy := hall ys (by simp)
    refine (of_two (c := c) h hL hLB hp hq.1 hq.2 gx gy (by omega) (two_of 11 (by omega) (by omega)) (fun W A0 A1 c0 c1 hg hx hy => ints_gtr (m := 7) hg hx hy gx gy (by show gs.length + 1795 ≤ 88000; omega) (by omega))).mono fun e w' hq2 => hq2.to (by show 72 ≤ 1800; omega) (.inl rfl) (fun inp => rfl) fun _ => rfl
  | 12, _, hl =>
    obtain ⟨xs, ys, rfl⟩ := row2 hl
    have hq : xs.length = 8 ∧ ys.length = 8 := by simpa [fitB] using hfit
    have gx := hall xs (by simp)
    have gy := hall ys (by simp)
    refine (of_two (c := c) h hL hLB hp hq.1 hq.2 gx gy (by omega) (two_of 12 (by omega) (by omega)) (fun W A0 A1 c0 c1 hg hx hy => ints_geq (m := 7) hg hx hy gx gy (by show gs.length + 1795 ≤ 88000; omega) (by omega))).mono fun e w' hq2 => hq2.to (by show 72 ≤ 1800; omega) (.inl rfl) (fun inp => rfl) fun _ => rfl
  | 13, _, hl =>
    obtain ⟨xs, ys, rfl⟩ := row2 hl
    have hq : xs.length = 8 ∧ ys.length = 8 := by simpa [fitB] using hfit
    have gx := hall xs (by simp)
    have gy := hall ys (by simp)
    refine (of_two (c := c) h hL hLB hp hq.1 hq.2 gx gy (by omega) (two_of 13 (by omega) (by omega)) (fun W A0 A1 c0 c1 hg hx hy => ints_plus (m := 7) hg hx hy gx gy (by show gs.length + 1795 ≤ 88000; omega) (by omega))).mono fun e w' hq2 => hq2.to (by show 1795 ≤ 1800; omega) (.inr rfl) (fun inp => rfl) fun _ => rfl
  | 14, _, hl =>
    obtain ⟨xs, ys, rfl⟩ := row2 hl
    have hq : xs.length = 8 ∧ ys.length = 8 := by simpa [fitB] using hfit
    have gx := hall xs (by simp)
    have gy := hall ys (by simp)
    refine (of_two (c := c) h hL hLB hp hq.1 hq.2 gx gy (by omega) (two_of 14 (by omega) (by omega)) (fun W A0 A1 c0 c1 hg hx hy => ints_minus (m := 7) hg hx hy gx gy (by show gs.length + 1795 ≤ 88000; omega) (by omega))).mono fun e w' hq2 => hq2.to (by show 1795 ≤ 1800; omega) (.inr rfl) (fun inp => rfl) fun _ => rfl
  | 15, _, hl =>
    obtain ⟨xs, ys, rfl⟩ := row2 hl
    have hq : xs.length = 8 ∧ ys.length = 8 := by simpa [fitB] using hfit
    have gx := hall xs (by simp)
    have gy := hall ys (by simp)
    refine (of_two (c := c) h hL hLB hp hq.1 hq.2 gx gy (by omega) (two_of 15 (by omega) (by omega)) (fun W A0 A1 c0 c1 hg hx hy => ints_times (m := 7) hg hx hy gx gy (by show gs.length + 1795 ≤ 88000; omega) (by omega))).mono fun e w' hq2 => hq2.to (by show 1795 ≤ 1800; omega) (.inr rfl) (fun inp => rfl) fun _ => rfl
  | 16, _, hl =>
    obtain ⟨xs, ys, rfl⟩ := row2 hl
    have hq : xs.length = 8 ∧ ys.length = 8 := by simpa [fitB] using hfit
    have gx := hall xs (by simp)
    have gy := hall ys (by simp)
    refine (of_two (c := c) h hL hLB hp hq.1 hq.2 gx gy (by omega) (two_of 16 (by omega) (by omega)) (fun W A0 A1 c0 c1 hg hx hy => ints_quo (m := 7) hg hx hy gx gy (by show gs.length + 1795 ≤ 88000; omega) (by omega))).mono fun e w' hq2 => hq2.to (by show 1187 ≤ 1800; omega) (.inr rfl) (fun inp => rfl) fun _ => rfl
  | 17, _, hl =>
    obtain ⟨xs, ys, rfl⟩ := row2 hl
    have hq : xs.length = 8 ∧ ys.length = 8 := by simpa [fitB] using hfit
    have gx := hall xs (by simp)
    have gy := hall ys (by simp)
    refine (of_two (c := c) h hL hLB hp hq.1 hq.2 gx gy (by omega) (two_of 17 (by omega) (by omega)) (fun W A0 A1 c0 c1 hg hx hy => ints_rest (m := 7) hg hx hy gx gy (by show gs.length + 1795 ≤ 88000; omega) (by omega))).mono fun e w' hq2 => hq2.to (by show 1187 ≤ 1800; omega) (.inr rfl) (fun inp => rfl) fun _ => rfl
  | n + 18, hi, _ => exact absurd hi (by omega)
end Go.Proofs.YtmbjhpgemphmmaaDoor
