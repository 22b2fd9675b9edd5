/-
  WALK of (*checker).spread.
-/
import Derived.Test.YtgchepkcjkhmmaaDoorUw
import Derived.Test.YtgchepkcjkhmmaaDoorHq
namespace Go.Proofs.YtgchepkcjkhmmaaDoor
open Go.RowKit
section
variable {w : World} {tag : Nat → Tag} {p V : Nat} {L : List (List Int)} {c tr0 : List Int} {s0 s : St} {fx dd : Int} {us : List Int} {y : Lay}
def SpO (w : World) (tag : Nat → Tag) (p V : Nat) (L : List (List Int)) (c tr0 : List Int) (s0 : St) (fx dd : Int) (hv : Value) (wr : World) : Prop :=
  ∃ (hd : Nat) (tag' : Nat → Tag) (y : Lay) (s : St) (us : List Int), hv = .int .i64 (hd : Nat) ∧ hd ≤ s.tr.length ∧ Re w tag tag' ∧ Cg tag (Fr 9) w wr ∧ Chk wr tag' p V y s.xs s.wt s.vs s.tr us fx dd ∧ SpI V L c tr0 s0 s hd
def SpK (w : World) (tag : Nat → Tag) (p V : Nat) (L : List (List Int)) (c tr0 : List Int) (s0 : St) (fx dd : Int) (hd : Nat) (n : Int) (l : List Nat) (lw : Value) (iv kv : Value) (wr : World) : Prop :=
  ∃ (i : Nat) (kept : List Nat) (tag' : Nat → Tag) (y : Lay) (s : St) (us : List Int), iv = .int .i64 (i : Nat) ∧ i ≤ l.length ∧ SpW w tag p V L c tr0 s0 fx dd hd n l lw kept (l.drop i) kv tag' y s us wr
def SpL (m : Nat) (r : List Int) (s : St) (jv : Value) : Prop := ∃ j : Nat, 2 ≤ j ∧ j ≤ m ∧ jv = .int .i64 (j : Nat) ∧ ∀ (q : Nat) y, q + 2 < j → r[q]? = some y → lv (va s.vs) y = -1
set_option maxRecDepth 100000 in
set_option maxHeartbeats 4000000 in
theorem spread_any {hd0 : Nat} (h : Chk w tag p V y s.xs s.wt s.vs s.tr us fx dd) (hp : SpI V L c tr0 s s hd0) (hV : V ≤ 150000) (hL : L.length ≤ 1000000) (hhd : hd0 ≤ s.tr.length) :
    Calls Tryd.prog 38 #[.pointer (some ⟨p, 0, none⟩), .int .i64 (hd0 : Nat)] w (SpP w tag p V L c tr0 s fx dd) := by
  obtain ⟨i0, hi, hz0, hz1, hz2⟩ := info_parts info_int
  have HI := Lib.hid (And.intro hi (And.intro hz0 (And.intro hz1 hz2)))
  clear hi hz0 hz1 hz2
  have HST := Lib.hid (show SpO w tag p V L c tr0 s fx dd (.int .i64 (hd0 : Nat)) w from ⟨hd0, tag, y, s, us, rfl, hhd, Re.refl _ _, Chg.refl _ _, h, hp⟩)
  have HSZ := Lib.hid (Nat.le_refl w.heap.size)
  clear h hp hhd
  obtain ⟨s0, hs0⟩ : ∃ s0, s = s0 := ⟨_, rfl⟩
  rw [hs0] at HST ⊢
  clear hs0
  go_enter Tryd.func38, Tryd.ntmps38
  go_wp2_with fail
  go_loopw [1] (fun hv wr => SpO w tag p V L c tr0 s0 fx dd hv wr) (fun hv _ => V + 1 - (intOf hv).toNat)
  case atStart => exact HST.out
  case round =>
    obtain ⟨hd, tag1, y1, s1, us1, rfl, hhd, hre, hcg, hck, hpl⟩ := hrel
    clear HST
    have htl := hpl.si.tr_le
    obtain ⟨vC, rows, bm, gv, gu, vt, wv⟩ := y1
    obtain ⟨T, hT⟩ : ∃ T, s1.tr.length = T := ⟨_, rfl⟩
    obtain ⟨A, cT, hvt⟩ := hck.trl.form
    rw [litVals_len, hT] at hvt
    dsimp only at hvt
    subst hvt
    rw [hT] at hhd htl
    have c3 : wr.cell? ⟨p, 3, none⟩ = some (.slice A T cT) := hck.blk.cell 3
    have HT := Lib.hid hT
    have HRE := Lib.hid hre
    have HCG := Lib.hid hcg
    have HCK := Lib.hid hck
    have HPL := Lib.hid hpl
    clear hre hcg hck hpl hT
    by_cases hlt : hd < T
    · obtain ⟨m, hm⟩ : ∃ m, s1.tr[hd]? = some m := ⟨_, List.getElem?_eq_getElem (by rw [HT.out]; exact hlt)⟩
      obtain ⟨n, hn⟩ : ∃ n, -m = n := ⟨_, rfl⟩
      obtain ⟨gt, hA⟩ : ∃ gt, A = some ⟨gt, 0, none⟩ := by
        obtain ⟨g, cc, hv, _, _⟩ := HCK.out.trl.at_ (by rw [litVals_len, HT.out]; omega)
        injection hv with e1; exact ⟨g, e1⟩
      subst hA
      have ct : wr.cell? ⟨gt, hd, none⟩ = some (.int .i64 m) := Row.cell (xs := litVals s1.tr) (c := cT) (by rw [litVals_len, HT.out]; exact HCK.out.trl) (lit_at hm)
      have hlm : Lit V m := (HPL.out.si.trv m (List.mem_of_getElem? hm)).1
      have wn : IntKind.i64.wrap (-m) = n := by rw [IntKind.wrap_i64]; have := hlm.2; omega
      have hnV : n.natAbs ≤ V := by have := hlm.2; omega
      have HAT := Lib.hid (show s1.tr[hd]? = some (-n) by rw [hm]; congr 1; omega)
      obtain ⟨l, hl⟩ : ∃ l, s1.wt n = l := ⟨_, rfl⟩
      obtain ⟨Al, cl, hwv⟩ := (HCK.out.wts n hnV).form
      rw [kVals_len, hl] at hwv
      dsimp only at hwv
      have look : (Instr.lookup 52 (.map (some bm)) (.int .i64 n) false).run Tryd.prog wr = .ok (.slice Al l.length cl) wr := by
        have := HCK.out.look (by omega) hnV
        dsimp only at this
        rw [hwv] at this; exact this
      have c1 : wr.cell? ⟨p, 1, none⟩ = some (.map (some bm)) := HCK.out.blk.cell 1
      have hlL : l.length ≤ 1000000 := by have := HPL.out.si.wle n; rw [hl] at this; omega
      have HST := Lib.hid (show SpK w tag p V L c tr0 s0 fx dd hd n l (.slice Al l.length cl) (.int .i64 ((0 : Nat) : Int)) (.slice none 0 0) wr from ⟨0, [], tag1, ⟨vC, rows, bm, gv, gu, .slice (some ⟨gt, 0, none⟩) T cT, wv⟩, s1, us1, rfl, Nat.zero_le _, ⟨Row.nil _ _ _ _ _, HRE.out, HCG.out, by rw [← hl, upd_back]; exact HCK.out, hwv, by rw [List.drop_zero, ← hl]; exact HPL.out.start HAT.out⟩⟩)
      clear hm hn hlm hl hwv HCG HCK HPL HRE HT HAT
      go_wp2_with fail
      clear c1 c3 ct look wn
      go_loopw [37, 7] (fun iv kv wr => SpK w tag p V L c tr0 s0 fx dd hd n l (.slice Al l.length cl) iv kv wr) (fun iv _ _ => l.length - (intOf iv).toNat)
      case atStart => exact HST.out
      case round =>
        clear HST
        obtain ⟨i, kept, tag1, y1, s1, us1, rfl, hil, hS⟩ := hrel
        obtain ⟨vC, rows, bm, gv, gu, vt, wv⟩ := y1
        obtain ⟨Ak, ck, hkv⟩ := hS.kr.form
        rw [kVals_len] at hkv
        subst hkv
        have HS := Lib.hid hS
        clear hS
        by_cases hi : i < l.length
        · obtain ⟨k, hk⟩ : ∃ k, l[i]? = some k := ⟨_, List.getElem?_eq_getElem hi⟩
          obtain ⟨rest, hrest⟩ : ∃ rest, l.drop (i + 1) = rest := ⟨_, rfl⟩
          have hdr : l.drop i = k :: rest := by rw [← hrest, List.drop_eq_getElem_cons hi]; congr 1; rw [List.getElem?_eq_getElem hi] at hk; injection hk
          have hS := HS.out
          rw [hdr] at hS
          obtain ⟨a, b, r, hx, hab⟩ := hS.pl.clause
          obtain ⟨gc, cc, gx, cx, hvC, hkL, chd, hu, hrow⟩ := hS.row hx (by simp)
          dsimp only at hvC hu
          subst hvC
          obtain ⟨m, hm⟩ : ∃ m, r.length + 2 = m := ⟨_, rfl⟩
          have hml : (a :: b :: r).length = m := by simp; omega
          have hmV : m ≤ 2 * V := by have := hS.pl.si.xle hx; omega
          obtain ⟨gl, hAl⟩ : ∃ gl, Al = some ⟨gl, 0, none⟩ := by
            obtain ⟨g, cc', hv, _, _⟩ := (hS.ck.wts n hnV).at_ (by rw [upd_same, kVals_len]; omega)
            have hlw := hS.lw
            dsimp only at hlw hv
            rw [hlw] at hv
            injection hv with e1; exact ⟨g, e1⟩
          subst hAl
          have cl1 : wr.cell? ⟨gl, i, none⟩ = some (.int .i64 (k : Int)) := by
            have h1 := hS.ck.wts n hnV
            have hlw := hS.lw
            dsimp only at hlw h1
            rw [upd_same, hlw] at h1
            exact Row.cell (xs := kVals l) (c := cl) (by rw [kVals_len]; exact h1) (k_at hk)
          rw [hml] at chd hu
          have c0 : wr.cell? ⟨p, 0, none⟩ = some (.slice (some ⟨gc, 0, none⟩) L.length cc) := hS.ck.blk.cell 0
          have cx0 : wr.cell? ⟨gx, 0, none⟩ = some (.int .i64 a) := Row.cell hrow (lit_at rfl)
          have cx1 : wr.cell? ⟨gx, 1, none⟩ = some (.int .i64 b) := Row.cell hrow (lit_at rfl)
          have fx0 : wr.frozen? ⟨gx, 0, none⟩ = false := Row.frozen hrow 0
          have fx1 : wr.frozen? ⟨gx, 1, none⟩ = false := Row.frozen hrow 1
          have kI : (k : Int) < (L.length : Int) := by omega
          have iI : (i : Int) < (l.length : Int) := by omega
          have m0 : (0 : Int) < (m : Int) := by omega
          have m1 : (1 : Int) < (m : Int) := by omega
          have HX := Lib.hid hx
          have HU := Lib.hid hu
          have HM := Lib.hid hm
          have HREST := Lib.hid hrest
          have HS := Lib.hid hS
          have HAB := Lib.hid hab
          clear hx hu hm hrest hS hdr hk hab hml hrow
          go_upto_if 53 with fail
          go_cut [] (fun wx => ∃ (wz : World), wz = wx ∧ ∃ (a2 : Int) (r2 : List Int) (s2 : St), s2.xs[k]? = some (a2 :: n :: r2) ∧ r2.length + 2 = m ∧ SpW w tag p V L c tr0 s0 fx dd hd n l (.slice (some ⟨gl, 0, none⟩) l.length cl) kept (k :: rest) (.slice Ak kept.length ck) tag1 ⟨.slice (some ⟨gc, 0, none⟩) L.length cc, rows, bm, gv, gu, vt, wv⟩ s2 us1 wx)
          case first =>
            as_aux_lemma =>
            by_cases ha : a = n
            · subst ha
              have ht : ((a : Int) == a) = true := by simp
              have E1 := Lib.hid (HS.out.swap (wr2 := ((wr.setCell ⟨gx, 0, none⟩ (.int .i64 b)).setCell ⟨gx, 1, none⟩ (.int .i64 a)).drew) HX.out HU.out HM.out (.inl rfl))
              have E2 := Lib.hid (HS.out.swap (wr2 := ((wr.setCell ⟨gx, 1, none⟩ (.int .i64 a)).setCell ⟨gx, 0, none⟩ (.int .i64 b)).drew) HX.out HU.out HM.out (.inr rfl))
              have HXS := Lib.hid (show (s1.xs.set k (b :: a :: r))[k]? = some (b :: a :: r) by rw [List.getElem?_set, if_pos rfl, if_pos (List.getElem?_eq_some_iff.1 HX.out).1])
              go_wp2_with fail
              go_region
              all_goals go_wp2
              all_goals go_meet
              all_goals first
                | exact ⟨_, rfl, b, r, _, HXS.out, HM.out, E1.out⟩
                | exact ⟨_, rfl, b, r, _, HXS.out, HM.out, E2.out⟩
            · have hb : b = n := HAB.out.resolve_left ha
              subst hb
              have ht : ((a : Int) == b) = false := by simp [ha]
              go_wp2_with fail
              go_meet
              exact ⟨_, rfl, a, r, s1, HX.out, HM.out, HS.out⟩
          case rest =>
          obtain ⟨wz, hwz, a2, r2, s2, hx2, hm2, hS2⟩ := hcut
          subst hwz
          clear c0 cx0 cx1 fx0 fx1 chd cl1 HS HX HAB HM
          have hla : a2.natAbs ≤ V := (hS2.pl.si.xlit _ (List.mem_of_getElem? hx2) a2 (by simp)).2
          have C1 := of_any hS2.ck hS2.pl.si.vlen hS2.pl.si.vok hla (by omega)
          obtain ⟨v, hv⟩ : ∃ v, lv (va s2.vs) a2 = v := ⟨_, rfl⟩
          have hv3 := hS2.pl.si.ok a2
          rw [hv] at C1 hv3
          have C1 := Lib.hid C1
          have XC := Lib.hid (fun (j : Nat) (z : Int) (hj : (a2 :: n :: r2)[j]? = some z) => hS2.x.cells hx2 HU.out (by simp; omega) j hj)
          have hkl : kept.length ≤ 999999 := by
            have h1 := hS2.pl.si.wle n
            rw [hS2.pl.wtn] at h1
            simp at h1
            omega
          have HKR := Lib.hid (show (wz.alloc (.cells #[.int .i64 (k : Int)] 3)).ownsRow w.heap.size 3 1 (.slice Ak kept.length ck) kept.length (kVals kept) from by
            have := (hS2.kr.alloc (.cells #[.int .i64 (k : Int)] 3)).own
            rw [kVals_len] at this; exact this)
          have HWZ := Lib.hid (show w.heap.size ≤ (wz.alloc (.cells #[.int .i64 (k : Int)] 3)).heap.size from by have := hS2.cg.size; simp; omega)
          have HA := Lib.hid (hS2.x.new ((Below.refl _ _).alloc (Nat.le_refl _) (.cells #[.int .i64 (k : Int)] 3)))
          have HS := Lib.hid hS2
          have HX := Lib.hid hx2
          have HM := Lib.hid hm2
          have HV := Lib.hid hv
          have cx0 := (XC.out 0 a2 rfl).1
          clear hS2 hx2 hm2 hv
          by_cases hv1 : v = 1
          · as_aux_lemma =>
            subst hv1
            go_wp2_with fail
            refine C1.out.mono ?_
            rintro e w' ⟨rfl, rfl⟩
            go_wp2_with (first | (at_builtin; refine wpList_append_loc _ rfl (.tmp 121) (.tmp 123) _ rfl w.heap.size 3 i0 _ 1 8 Tryd.underlying27 HI.out.1 HI.out.2.1 HI.out.2.2.1 HI.out.2.2.2 rfl (by omega) (.slice Ak kept.length ck) kept.length (kVals kept) rfl HKR.out (wz.heap.size + 1) (some ⟨wz.heap.size, 0, none⟩) 1 1 [.int .i64 (k : Int)] rfl (reads_new (by simp) (by simp) rfl) (by intro u hu; rw [List.mem_singleton.1 hu]; rfl) (le_maxLen (by omega)) (le_bytes (by omega) (by omega)) HWZ.out ?_; intro A6 c6 w6 hown6 hg6 hl6; obtain ⟨tag2, hX6⟩ := HA.out.grown (kept2 := kept ++ [k]) (by rw [← k_snoc]; exact hown6) (by simp) hg6 hl6; have cx6 := (hX6.cells HX.out HU.out (by have := HM.out; simp; omega) 0 (u := a2) rfl).1; have H6 := Lib.hid hX6; clear hown6 hg6 hl6 hX6) | fail)
            have C6 := of_any H6.out.ck HS.out.pl.si.vlen HS.out.pl.si.vok hla (by omega)
            rw [HV.out] at C6
            have C6 := Lib.hid C6
            refine C6.out.mono ?_
            rintro e w' ⟨rfl, rfl⟩
            have HN := Lib.hid (show SpK w tag p V L c tr0 s0 fx dd hd n l (.slice (some ⟨gl, 0, none⟩) l.length cl) (.int .i64 ((i + 1 : Nat) : Int)) (.slice A6 (kept.length + 1) c6) w6 from ⟨i + 1, kept ++ [k], tag2, _, s2, us1, rfl, by omega, by rw [HREST.out]; exact H6.out.w_ (HS.out.pl.hold HX.out HV.out)⟩)
            go_wp2_with fail
            go_roundw
            case rel => exact HN.out
            case measure => simp [intOf]; omega
          · as_aux_lemma =>
            have hvn : ((v : Int) != 1) = true := by simp [hv1]
            have HJ0 := Lib.hid (show SpL m r2 s2 (.int .i64 ((2 : Nat) : Int)) from ⟨2, Nat.le_refl _, by omega, rfl, fun q y hq _ => by omega⟩)
            go_wp2_with fail
            refine C1.out.mono ?_
            rintro e w' ⟨rfl, rfl⟩
            go_wp2_with fail
            go_loop [11] (fun jv => SpL m r2 s2 jv) (fun jv => m - (intOf jv).toNat)
            case atStart => exact HJ0.out
            case round =>
              obtain ⟨j, hj2, hjm, rfl, hjr⟩ := hrel
              have HJR := Lib.hid hjr
              clear hjr HJ0
              by_cases hjlt : j < m
              · obtain ⟨q, hq⟩ : ∃ q, j = q + 2 := ⟨j - 2, by omega⟩
                obtain ⟨z, hz⟩ : ∃ z, r2[q]? = some z := ⟨_, List.getElem?_eq_getElem (by have := HM.out; omega)⟩
                obtain ⟨cz, fz⟩ := XC.out j z (by rw [hq]; exact hz)
                have hlz : z.natAbs ≤ V := (HS.out.pl.si.xlit _ (List.mem_of_getElem? HX.out) z (by simp [List.mem_of_getElem? hz])).2
                have Cz := of_any HS.out.ck HS.out.pl.si.vlen HS.out.pl.si.vok hlz (by omega)
                obtain ⟨u, hu⟩ : ∃ u, lv (va s2.vs) z = u := ⟨_, rfl⟩
                rw [hu] at Cz
                have Cz := Lib.hid Cz
                have HZ := Lib.hid hz
                have HZU := Lib.hid hu
                have HQ := Lib.hid hq
                have jI : (j : Int) < (m : Int) := by omega
                clear hz hu hq
                by_cases hu1 : u = -1
                · as_aux_lemma =>
                  have hun : ((u : Int) == -1) = true := by simp [hu1]
                  have HR := Lib.hid (show SpL m r2 s2 (.int .i64 ((j + 1 : Nat) : Int)) from ⟨j + 1, by omega, by omega, rfl, fun q' y' hq' hy' => by
                    have := HQ.out
                    by_cases e : q' = q
                    · subst e; rw [HZ.out] at hy'; injection hy' with hy'; rw [← hy', HZU.out]; exact hu1
                    · exact HJR.out q' y' (by omega) hy'⟩)
                  clear hu1
                  go_wp2_with fail
                  refine Cz.out.mono ?_
                  rintro e w' ⟨rfl, rfl⟩
                  go_wp2_with fail
                  go_round
                  case rel => exact HR.out
                  case measure => simp [intOf]; omega
                · as_aux_lemma =>
                  have hun : ((u : Int) == -1) = false := by simp [hu1]
                  have hz1 : lv (va s2.vs) z ≠ -1 := by rw [HZU.out]; exact hu1
                  obtain ⟨cx1, fx1⟩ := XC.out 1 n rfl
                  have E1 := Lib.hid (HS.out.move (wr2 := ((wz.setCell ⟨gx, 1, none⟩ (.int .i64 z)).setCell ⟨gx, j, none⟩ (.int .i64 n)).drew) HX.out HU.out HM.out HZ.out hz1 (.inl (by rw [HQ.out])))
                  have E2 := Lib.hid (HS.out.move (wr2 := ((wz.setCell ⟨gx, j, none⟩ (.int .i64 n)).setCell ⟨gx, 1, none⟩ (.int .i64 z)).drew) HX.out HU.out HM.out HZ.out hz1 (.inr (by rw [HQ.out])))
                  have HXM := Lib.hid (show (s2.xs.set k (a2 :: z :: r2.set q n))[k]? = some (a2 :: z :: r2.set q n) by rw [List.getElem?_set, if_pos rfl, if_pos (List.getElem?_eq_some_iff.1 HX.out).1])
                  have hj1 : j ≠ 1 := by omega
                  have hj1' : 1 ≠ j := by omega
                  clear hu1 hz1
                  go_wp2_with fail
                  refine Cz.out.mono ?_
                  rintro e w' ⟨rfl, rfl⟩
                  go_wp2_with fail
                  go_upto_region 19 with fail
                  go_cut [] (fun wx => ∃ wm, wm = wx ∧ SpM w tag p V L c tr0 s0 fx dd hd n l (.slice (some ⟨gl, 0, none⟩) l.length cl) kept rest (.slice Ak kept.length ck) tag1 ⟨.slice (some ⟨gc, 0, none⟩) L.length cc, rows, bm, gv, gu, vt, wv⟩ { s2 with xs := s2.xs.set k (a2 :: z :: r2.set q n) } us1 k z wm)
                  case first =>
                    as_aux_lemma =>
                    go_region
                    all_goals go_wp2
                    all_goals go_meet
                    all_goals first
                      | exact ⟨_, rfl, E1.out⟩
                      | exact ⟨_, rfl, E2.out⟩
                  case rest =>
                  as_aux_lemma =>
                  obtain ⟨wm, hwm, hM⟩ := hcut
                  subst hwm
                  clear E1 E2 cz fz cx0 cx1 fx1 Cz C1
                  obtain ⟨Az, cw, hwz⟩ := (hM.ck.wts z hlz).form
                  rw [kVals_len, upd_other hM.zn] at hwz
                  have hwz : wv z = .slice Az (s2.wt z).length cw := hwz
                  have hwl : (s2.wt z).length ≤ 999999 := by have h1 := hM.wl; have h2 : ({ s2 with xs := s2.xs.set k (a2 :: z :: r2.set q n) } : St).wt z = s2.wt z := rfl; rw [h2] at h1; omega
                  have SEEN := Lib.hid (show ∀ w' : World, wm.grownBy w' (wv z).ownBlock → w'.cell? ⟨p, 1, none⟩ = some (.map (some bm)) ∧ w'.cell? ⟨gx, 1, none⟩ = some (.int .i64 z) ∧ (Instr.lookup 52 (.map (some bm)) (.int .i64 z) false).run Tryd.prog w' = .ok (.slice Az (s2.wt z).length cw) w' from fun w' hg => by
                    have := hM.seen (by omega) hg HXM.out HU.out (by have := HM.out; simp; omega) 1 (u := z) rfl
                    dsimp only at this
                    rw [hwz] at this; exact this)
                  have HROW := Lib.hid (show wm.ownsRow 0 3 1 (.slice Az (s2.wt z).length cw) (s2.wt z).length (kVals (s2.wt z)) from by
                    have h1 := (hM.ck.wts z hlz).own
                    rw [kVals_len, upd_other hM.zn] at h1
                    have h1 : wm.ownsRow 0 3 1 (wv z) (s2.wt z).length (kVals (s2.wt z)) := h1
                    rw [hwz] at h1; exact h1)
                  have HWZ2 := Lib.hid hwz
                  have HMM := Lib.hid hM
                  clear hM hwz
                  go_wp2_with fail
                  refine wp_region_mv (S := fun w' => w'.cell? ⟨p, 1, none⟩ = some (.map (some bm)) ∧ w'.cell? ⟨gx, 1, none⟩ = some (.int .i64 z) ∧ (Instr.lookup 52 (.map (some bm)) (.int .i64 z) false).run Tryd.prog w' = .ok (.slice Az (s2.wt z).length cw) w') 18 [.f 0, .f 1, .f 2, .f 3, .f 4, .f 5, .f 6, .f 7, .f 8, .f 9, .f 10, .f 11, .f 12, .f 13, .f 14, .f 15, .t 16, .t 17, .t 18] (by kernel_rfl) (by kernel_rfl) (by kernel_rfl) (SEEN.out _ (only_drew (World.grownBy.refl _ _))) ?_
                  iterate 16 (refine mv_take _ _ rfl (by kernel_rfl) (fun wv hv => by obtain ⟨hv1, hv2, hv3⟩ := hv; go_simp; try with_reducible rfl) ?_; simp only [Act.put, List.getElem_toArray, List.getElem_cons_zero, List.getElem_cons_succ, List.setIfInBounds_toArray, List.set_cons_zero, List.set_cons_succ])
                  refine mv_act _ rfl (fun K hK => ?_)
                  go_simp
                  go_simp
                  refine hK _ _ (.inr (SEEN.out _ (only_alloc (only_drew (World.grownBy.refl _ _)) _))) ?_
                  clear hK K
                  refine mv_act _ rfl (fun K hK => ?_)
                  refine step_append_loc _ rfl (.tmp 117) (.tmp 119) _ rfl 0 3 i0 _ 1 8 Tryd.underlying27 HI.out.1 HI.out.2.1 HI.out.2.2.1 HI.out.2.2.2 rfl (by omega) (.slice Az (s2.wt z).length cw) (s2.wt z).length (kVals (s2.wt z)) rfl (World.ownsRow.alloc (World.ownsRow.drew HROW.out) _) (wm.heap.size + 1) (some ⟨wm.heap.size, 0, none⟩) 1 1 [.int .i64 (k : Int)] rfl (reads_new (by simp) (by simp) rfl) (by intro u hu; rw [List.mem_singleton.1 hu]; rfl) (le_maxLen (by omega)) (le_bytes (by omega) (by omega)) (by simp) ?_
                  intro A6 c6 w6 hown6 hg6 hl6
                  have hg7 : (wm.drew.alloc (.cells #[.int .i64 (k : Int)] 3)).grownBy w6 (wv z).ownBlock := by rw [HWZ2.out]; exact hg6
                  have hl7 : (Value.slice A6 ((s2.wt z).length + 1) c6).ownBlock = (wv z).ownBlock ∨ (Value.slice A6 ((s2.wt z).length + 1) c6).ownBlock = some (wm.drew.alloc (.cells #[.int .i64 (k : Int)] 3)).heap.size := by rw [HWZ2.out]; exact hl6
                  have hS6 := SEEN.out w6 (grown_tr (only_alloc (only_drew (World.grownBy.refl _ _)) _) hg7)
                  obtain ⟨w2, tag2, hrun, hW⟩ := (HMM.out.new ((below_drewN (Below.refl _ _) 1).alloc (Nat.le_refl _) (.cells #[.int .i64 (k : Int)] 3))).push (by omega) (by rw [← k_snoc]; exact hown6) rfl hg7 hl7
                  have hrun : (Instr.mapUpdate 52 (.map (some bm)) (.int .i64 z) (.slice A6 ((s2.wt z).length + 1) c6)).run Tryd.prog w6 = .ok () w2 := hrun
                  have HN := Lib.hid (show SpK w tag p V L c tr0 s0 fx dd hd n l (.slice (some ⟨gl, 0, none⟩) l.length cl) (.int .i64 ((i + 1 : Nat) : Int)) (.slice Ak kept.length ck) w2 from ⟨i + 1, kept, tag2, _, _, us1, rfl, by omega, by rw [HREST.out]; exact hW⟩)
                  clear hown6 hg6 hl6 hg7 hl7 hW
                  refine hK _ _ (.inr (hS6)) ?_
                  clear hK K
                  try simp only [Act.put, List.getElem_toArray, List.getElem_cons_zero, List.getElem_cons_succ, List.setIfInBounds_toArray, List.set_cons_zero, List.set_cons_succ]
                  clear hS6
                  refine mv_act _ rfl (fun K hK => ?_)
                  go_simp
                  go_simp
                  refine hK _ _ (.inl rfl) ?_
                  clear hK K
                  refine mv_nil ?_
                  go_wp2_with fail
                  go_roundw
                  case rel => exact HN.out
                  case measure => simp [intOf]; omega
              · obtain rfl : j = m := by omega
                have HALL := Lib.hid (show ∀ y ∈ r2, lv (va s2.vs) y = -1 from fun y hy => by
                  obtain ⟨q, hq, e⟩ := List.getElem_of_mem hy
                  exact HJR.out q y (by have := HM.out; omega) (by rw [List.getElem?_eq_getElem hq, e]))
                clear HJR hjlt
                by_cases hv0 : v = 0
                · as_aux_lemma =>
                  subst hv0
                  go_wp2_with (first | (at_builtin; refine wpList_append_loc _ rfl (.tmp 121) (.tmp 123) _ rfl w.heap.size 3 i0 _ 1 8 Tryd.underlying27 HI.out.1 HI.out.2.1 HI.out.2.2.1 HI.out.2.2.2 rfl (by omega) (.slice Ak kept.length ck) kept.length (kVals kept) rfl HKR.out (wz.heap.size + 1) (some ⟨wz.heap.size, 0, none⟩) 1 1 [.int .i64 (k : Int)] rfl (reads_new (by simp) (by simp) rfl) (by intro u hu; rw [List.mem_singleton.1 hu]; rfl) (le_maxLen (by omega)) (le_bytes (by omega) (by omega)) HWZ.out ?_; intro A6 c6 w6 hown6 hg6 hl6; obtain ⟨tag2, hX6⟩ := HA.out.grown (kept2 := kept ++ [k]) (by rw [← k_snoc]; exact hown6) (by simp) hg6 hl6; have cx6 := (hX6.cells HX.out HU.out (by have := HM.out; simp; omega) 0 (u := a2) rfl).1; have H6 := Lib.hid hX6; clear hown6 hg6 hl6 hX6) | fail)
                  have C6 := of_any H6.out.ck HS.out.pl.si.vlen HS.out.pl.si.vok hla (by omega)
                  rw [HV.out] at C6
                  have C6 := Lib.hid C6
                  refine C6.out.mono ?_
                  rintro e w' ⟨rfl, rfl⟩
                  have HU2 := Lib.hid (HS.out.pl.unit HX.out HALL.out HV.out)
                  have CS := Lib.hid (set_any H6.out.ck HS.out.pl.si.vlen HS.out.pl.si.tr_le HU2.out.1 (by_ := (k : Int)) (by omega))
                  go_wp2_with fail
                  refine CS.out.mono ?_
                  rintro e w7 ⟨rfl, tag3, vt3, hr3, hc3, hk3⟩
                  have HN := Lib.hid (show SpK w tag p V L c tr0 s0 fx dd hd n l (.slice (some ⟨gl, 0, none⟩) l.length cl) (.int .i64 ((i + 1 : Nat) : Int)) (.slice A6 (kept.length + 1) c6) w7 from ⟨i + 1, kept ++ [k], tag3, _, _, _, rfl, by omega, by rw [HREST.out]; exact (H6.out.set_ hr3 hc3 hk3).w_ HU2.out.2⟩)
                  clear hr3 hc3 hk3
                  go_wp2_with fail
                  go_roundw
                  case rel => exact HN.out
                  case measure => simp [intOf]; omega
                · as_aux_lemma =>
                  obtain rfl : v = -1 := by omega
                  go_wp2_with (first | (at_builtin; refine wpList_append_loc _ rfl (.tmp 121) (.tmp 123) _ rfl w.heap.size 3 i0 _ 1 8 Tryd.underlying27 HI.out.1 HI.out.2.1 HI.out.2.2.1 HI.out.2.2.2 rfl (by omega) (.slice Ak kept.length ck) kept.length (kVals kept) rfl HKR.out (wz.heap.size + 1) (some ⟨wz.heap.size, 0, none⟩) 1 1 [.int .i64 (k : Int)] rfl (reads_new (by simp) (by simp) rfl) (by intro u hu; rw [List.mem_singleton.1 hu]; rfl) (le_maxLen (by omega)) (le_bytes (by omega) (by omega)) HWZ.out ?_; intro A6 c6 w6 hown6 hg6 hl6; obtain ⟨tag2, hX6⟩ := HA.out.grown (kept2 := kept ++ [k]) (by rw [← k_snoc]; exact hown6) (by simp) hg6 hl6; have cx6 := (hX6.cells HX.out HU.out (by have := HM.out; simp; omega) 0 (u := a2) rfl).1; have H6 := Lib.hid hX6; clear hown6 hg6 hl6 hX6) | fail)
                  have C6 := of_any H6.out.ck HS.out.pl.si.vlen HS.out.pl.si.vok hla (by omega)
                  rw [HV.out] at C6
                  have C6 := Lib.hid C6
                  refine C6.out.mono ?_
                  rintro e w' ⟨rfl, rfl⟩
                  have HL6 := Lib.hid (show Row w6 tag2 (8, n) 0 3 (.slice (some ⟨gl, 0, none⟩) l.length cl) (kVals l) from by
                    have h1 := H6.out.ck.wts n hnV
                    have hlw := H6.out.lw
                    dsimp only at hlw h1
                    rw [upd_same, hlw] at h1
                    exact h1)
                  have hlc : l.length ≤ cl ∧ cl ≤ 9223372036854775807 := by
                    have := HL6.out.own.2
                    rw [kVals_len] at this
                    rcases this with ⟨e, _⟩ | ⟨g, c', cur, e, _, _, hle, hmx, _⟩
                    · injection e with e0; cases e0
                    · injection e with _ _ e2; unfold maxLen at hmx; omega
                  obtain ⟨i1, hi1⟩ : ∃ i1, i + 1 = i1 := ⟨_, rfl⟩
                  have wi : IntKind.i64.wrap ((i : Int) + 1) = (i1 : Int) := by rw [IntKind.wrap_i64]; omega
                  have hi1l : i1 ≤ l.length := by omega
                  have hrl : rest.length = l.length - i1 := by rw [← HREST.out, hi1, List.length_drop]
                  have HRL := Lib.hid hrl
                  have HRD := Lib.hid (show Reads w6 w6.heap.size 1 (if cl = i1 then some ⟨gl, 0, none⟩ else (some (⟨gl, 0, none⟩ : Addr)).map (·.add (i1 * 1))) (l.length - i1) (kVals rest) from by
                    have h1 := (Reads.of_own (by have := HL6.out.own; rw [kVals_len] at this; exact this)).cut (k := i1) (cap := cl) hi1l hlc.1
                    have e : (kVals l).drop (i1 * 1) = kVals rest := by unfold kVals; rw [Nat.mul_one, ← List.map_drop, ← hi1, HREST.out]
                    rw [e] at h1; exact h1)
                  have c16 : w6.cell? ⟨p, 1, none⟩ = some (.map (some bm)) := H6.out.ck.blk.cell 1
                  have HR6 := Lib.hid (show w6.ownsRow w.heap.size 3 1 (.slice A6 (kept.length + 1) c6) (kept.length + 1) (kVals (kept ++ [k])) from by
                    have := H6.out.kr.own
                    rw [kVals_len, List.length_append] at this; exact this)
                  have hm1 : kept.length + 1 + (l.length - i1) ≤ 1000000 := by
                    have h1 := HS.out.pl.si.wle n
                    rw [HS.out.pl.wtn] at h1
                    simp only [List.length_append, List.length_cons, hrl] at h1
                    omega
                  have HSW := Lib.hid H6.out.cg.size
                  clear hi1 hrl
                  by_cases hcl : cl = i1
                  · have h0 : l.length - i1 = 0 := by omega
                    have hr0 : rest = [] := List.eq_nil_of_length_eq_zero (by rw [HRL.out]; exact h0)
                    subst hr0
                    subst hcl
                    have HRX := Lib.hid (show Reads w6 w6.heap.size 1 (some ⟨gl, 0, none⟩) 0 [] from ⟨rfl, fun h => absurd h (by omega)⟩)
                    have HSK := Lib.hid (show kVals (kept ++ [k]) = kVals (kept ++ [k]) ++ [] by simp)
                    clear h0
                    go_wp2_with fail
                    refine wp_region_mv (S := fun w' => w'.cell? ⟨p, 1, none⟩ = some (.map (some bm))) 11 [.f 0, .f 1, .f 2, .f 3, .f 4, .f 5, .f 6, .f 7, .f 8, .f 9, .t 10, .t 11] (by kernel_rfl) (by kernel_rfl) (by kernel_rfl) c16 ?_
                    iterate 10 (refine mv_take _ _ rfl (by kernel_rfl) (fun wv hv => by have hv1 := hv; clear hv; go_simp; try with_reducible rfl) ?_; simp only [Act.put, List.getElem_toArray, List.getElem_cons_zero, List.getElem_cons_succ, List.setIfInBounds_toArray, List.set_cons_zero, List.set_cons_succ])
                    refine mv_act _ rfl (fun K hK => ?_)
                    refine step_append_loc _ rfl (.tmp 137) (.tmp 141) _ rfl w.heap.size 3 i0 _ 1 8 Tryd.underlying27 HI.out.1 HI.out.2.1 HI.out.2.2.1 HI.out.2.2.2 rfl (by omega) (.slice A6 (kept.length + 1) c6) (kept.length + 1) (kVals (kept ++ [k])) rfl (World.ownsRow.drew HR6.out) w6.heap.size (some ⟨gl, 0, none⟩) 0 _ [] rfl HRX.out (by intro u hu; cases hu) (le_maxLen (by omega)) (le_bytes (by omega) (by omega)) HSW.out ?_
                    intro A7 c7 w7 hown7 hg7 hl7
                    obtain ⟨tag3, hX7⟩ := (H6.out.new (below_drewN (Below.refl _ _) 1)).grown (kept2 := kept ++ [k]) (by rw [HSK.out]; exact hown7) (by simp) hg7 hl7
                    obtain ⟨w2, tag4, y4, hrun, hre4, hcg4, hck4⟩ := hX7.shelve (by omega) hnV HS.out.pl.wtn
                    have hrun : (Instr.mapUpdate 52 (.map (some bm)) (.int .i64 n) (.slice A7 (kept.length + 1 + 0) c7)).run Tryd.prog w7 = .ok () w2 := hrun
                    have c17 : w7.cell? ⟨p, 1, none⟩ = some (.map (some bm)) := hX7.ck.blk.cell 1
                    have HE := Lib.hid (show SpP w tag p V L c tr0 s0 fx dd (.returned (.int .i64 (k : Nat))) w2 from ⟨tag4, y4, s2, us1, hre4, hcg4, hck4, HS.out.pl.si, HS.out.pl.w0, HS.out.pl.same, HS.out.pl.xl, HS.out.pl.pre, HS.out.pl.imp, .inr ⟨k, rfl, hkL, HS.out.pl.conflict HX.out HALL.out HV.out⟩⟩)
                    clear hown7 hg7 hl7 hX7 hre4 hcg4 hck4
                    refine hK _ _ (.inr (c17)) ?_
                    clear hK K
                    try simp only [Act.put, List.getElem_toArray, List.getElem_cons_zero, List.getElem_cons_succ, List.setIfInBounds_toArray, List.set_cons_zero, List.set_cons_succ]
                    clear c17
                    refine mv_act _ rfl (fun K hK => ?_)
                    go_simp
                    go_simp
                    refine hK _ _ (.inl rfl) ?_
                    clear hK K
                    refine mv_nil ?_
                    go_wp2_with fail
                    go_ret
                    exact HE.out
                  · have HRX := Lib.hid (show Reads w6 w6.heap.size 1 (some ⟨gl, i1, none⟩) (l.length - i1) (kVals rest) from by
                      have := HRD.out
                      rw [if_neg hcl] at this
                      have e : (⟨gl, 0, none⟩ : Addr).add (i1 * 1) = ⟨gl, i1, none⟩ := by
                        unfold Addr.add; rw [Nat.mul_one]; split
                        · rename_i h0; rw [h0]
                        · simp
                      rw [← e]; exact this)
                    have hcl' : ¬ (cl : Int) = (i1 : Int) := by omega
                    go_wp2_with fail
                    refine wp_region_mv (S := fun w' => w'.cell? ⟨p, 1, none⟩ = some (.map (some bm))) 11 [.f 0, .f 1, .f 2, .f 3, .f 4, .f 5, .f 6, .f 7, .f 8, .f 9, .t 10, .t 11] (by kernel_rfl) (by kernel_rfl) (by kernel_rfl) c16 ?_
                    iterate 10 (refine mv_take _ _ rfl (by kernel_rfl) (fun wv hv => by have hv1 := hv; clear hv; go_simp; try with_reducible rfl) ?_; simp only [Act.put, List.getElem_toArray, List.getElem_cons_zero, List.getElem_cons_succ, List.setIfInBounds_toArray, List.set_cons_zero, List.set_cons_succ])
                    refine mv_act _ rfl (fun K hK => ?_)
                    refine step_append_loc _ rfl (.tmp 137) (.tmp 141) _ rfl w.heap.size 3 i0 _ 1 8 Tryd.underlying27 HI.out.1 HI.out.2.1 HI.out.2.2.1 HI.out.2.2.2 rfl (by omega) (.slice A6 (kept.length + 1) c6) (kept.length + 1) (kVals (kept ++ [k])) rfl (World.ownsRow.drew HR6.out) w6.heap.size (some ⟨gl, i1, none⟩) (l.length - i1) (cl - i1) (kVals rest) rfl HRX.out (by intro u hu; obtain ⟨x, _, e⟩ := List.mem_map.1 hu; rw [← e]; rfl) (le_maxLen (by omega)) (le_bytes (by omega) (by omega)) HSW.out ?_
                    intro A7 c7 w7 hown7 hg7 hl7
                    obtain ⟨tag3, hX7⟩ := (H6.out.new (below_drewN (Below.refl _ _) 1)).grown (kept2 := kept ++ k :: rest) (by rw [show kVals (kept ++ k :: rest) = kVals (kept ++ [k]) ++ kVals rest by unfold kVals; simp]; exact hown7) (by simp only [List.length_append, List.length_cons]; have := HRL.out; omega) hg7 hl7
                    obtain ⟨w2, tag4, y4, hrun, hre4, hcg4, hck4⟩ := hX7.shelve (by omega) hnV HS.out.pl.wtn
                    have hrun : (Instr.mapUpdate 52 (.map (some bm)) (.int .i64 n) (.slice A7 (kept.length + 1 + (l.length - i1)) c7)).run Tryd.prog w7 = .ok () w2 := hrun
                    have c17 : w7.cell? ⟨p, 1, none⟩ = some (.map (some bm)) := hX7.ck.blk.cell 1
                    have HE := Lib.hid (show SpP w tag p V L c tr0 s0 fx dd (.returned (.int .i64 (k : Nat))) w2 from ⟨tag4, y4, s2, us1, hre4, hcg4, hck4, HS.out.pl.si, HS.out.pl.w0, HS.out.pl.same, HS.out.pl.xl, HS.out.pl.pre, HS.out.pl.imp, .inr ⟨k, rfl, hkL, HS.out.pl.conflict HX.out HALL.out HV.out⟩⟩)
                    clear hown7 hg7 hl7 hX7 hre4 hcg4 hck4
                    refine hK _ _ (.inr (c17)) ?_
                    clear hK K
                    try simp only [Act.put, List.getElem_toArray, List.getElem_cons_zero, List.getElem_cons_succ, List.setIfInBounds_toArray, List.set_cons_zero, List.set_cons_succ]
                    clear c17
                    refine mv_act _ rfl (fun K hK => ?_)
                    go_simp
                    go_simp
                    refine hK _ _ (.inl rfl) ?_
                    clear hK K
                    refine mv_nil ?_
                    go_wp2_with fail
                    go_ret
                    exact HE.out
        · have hil2 : l.drop i = [] := List.drop_eq_nil_of_le (by omega)
          have hS := HS.out
          rw [hil2] at hS
          have hwk : s1.wt n = kept := by have := hS.pl.wtn; rw [List.append_nil] at this; exact this
          obtain ⟨w2, tag2, y2, hrun, hre2, hcg2, hck2⟩ := hS.x.shelve (by omega) hnV hwk
          dsimp only at hrun
          have hrun : (Instr.mapUpdate 52 (.map (some bm)) (.int .i64 n) (.slice Ak kept.length ck)).run Tryd.prog wr = .ok () w2 := hrun
          have c1 : wr.cell? ⟨p, 1, none⟩ = some (.map (some bm)) := hS.ck.blk.cell 1
          have HN := Lib.hid (show SpO w tag p V L c tr0 s0 fx dd (.int .i64 ((hd + 1 : Nat) : Int)) w2 from ⟨hd + 1, tag2, y2, s1, us1, rfl, by have := (List.getElem?_eq_some_iff.1 hS.pl.at_).1; omega, hre2, hcg2, hck2, hS.pl.stop⟩)
          have hmx : hd < V + 1 := by omega
          clear hS hwk hre2 hcg2 hck2 hil2
          go_wp2_with fail
          go_roundw
          case rel => exact HN.out
          case measure => simp [intOf]; omega
    · have HW := Lib.hid (show Wi s1.xs s1.tr s1.tr from HPL.out.all (by rw [HT.out]; omega))
      go_wp2_with fail
      go_ret
      exact ⟨tag1, _, s1, us1, HRE.out, HCG.out, HCK.out, HPL.out.si, HPL.out.w0, HPL.out.same, HPL.out.xl, HPL.out.pre, HPL.out.imp, .inl ⟨rfl, HW.out⟩⟩
end
end Go.Proofs.YtgchepkcjkhmmaaDoor
