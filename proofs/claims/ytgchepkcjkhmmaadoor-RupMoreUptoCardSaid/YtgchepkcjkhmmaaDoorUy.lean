/-
  WALK of (*checker).follows.
-/
import Derived.Test.YtgchepkcjkhmmaaDoorUo
namespace Go.Proofs.YtgchepkcjkhmmaaDoor
open Go.RowKit
section
variable {w w' : World} {tag tag' : Nat → Tag} {p V : Nat} {y : Lay} {L : List (List Int)} {s : St} {us : List Int} {fx dd : Int} {l : List Int}
/-- what follows leaves: whether it does -/
def FoP (w : World) (tag : Nat → Tag) (p V : Nat) (L : List (List Int)) (l : List Int) (e : Ending) (w' : World) : Prop :=
  ∃ (b : Int) (ok : Bool), e = .returned (.tuple #[.int .i64 b, .bool ok]) ∧ (ok = true ↔ Ref L l) ∧ ∃ tag' y s us fx dd, Re w tag tag' ∧ Cg tag (Fr 9) w w' ∧ Chk w' tag' p V y s.xs s.wt s.vs s.tr us fx dd ∧ CkI V L s fx dd
/-- amid the loop over a question's numbers -/
def FoR (w : World) (tag : Nat → Tag) (p V : Nat) (L : List (List Int)) (l : List Int) (s0 : St) (fx : Int) (iv : Value) (wr : World) : Prop :=
  ∃ (i : Nat) (tag' : Nat → Tag) (y : Lay) (s : St) (us : List Int), i ≤ l.length ∧ iv = .int .i64 (i : Nat) ∧ Re w tag tag' ∧ Cg tag (Fr 9) w wr ∧ Chk wr tag' p V y s.xs s.wt s.vs s.tr us fx (-1) ∧ FoI V L l s0 s i
theorem Cg.cells {b j : Nat} {x : Value} (hc : Cg tag (Fr 9) w w') (ht : tag b = (0, 0)) (hx : w.cell? ⟨b, j, none⟩ = some x) : w'.cell? ⟨b, j, none⟩ = some x := by
  rw [← hx]
  refine World.cell?_of_block ?_
  cases e : w.heap[b]? with
  | none => rw [World.cell?] at hx; simp [e] at hx
  | some o => exact hc.keep b o e (by show ¬ Fr 9 (tag b); rw [ht]; exact fun h => absurd h.1 (by decide))
set_option maxRecDepth 100000 in
set_option maxHeartbeats 4000000 in
theorem follows_any (h : Chk w tag p V y s.xs s.wt s.vs s.tr us fx dd) (hi : CkI V L s fx dd) (hV : V ≤ 150000) (hL : L.length ≤ 900000) {A : Option Addr} {n c : Nat} (hn : l.length = n) (hn5 : n ≤ 100000) (hlit : ∀ m ∈ l, Lit V m)
    (hA : n = 0 ∨ ∃ b, A = some ⟨b, 0, none⟩ ∧ tag b = (0, 0) ∧ ∀ (j : Nat) u, (litVals l)[j]? = some u → w.cell? ⟨b, j, none⟩ = some u) :
    Calls Tryd.prog 20 #[.pointer (some ⟨p, 0, none⟩), .slice A n c] w (FoP w tag p V L l) := by
  have c6 : w.cell? ⟨p, 6, none⟩ = some (.int .i64 dd) := h.blk.cell 6
  by_cases hdd : dd = -1
  · subst hdd
    have hlive := hi.live rfl
    obtain ⟨vC, rows, bm, gv, gu, vt, wv⟩ := y
    obtain ⟨T, hT⟩ : ∃ T, s.tr.length = T := ⟨_, rfl⟩
    obtain ⟨At, ct, hvt⟩ := h.trl.form
    rw [litVals_len, hT] at hvt
    dsimp only at hvt
    subst hvt
    have c3 : w.cell? ⟨p, 3, none⟩ = some (.slice At T ct) := h.blk.cell 3
    have htV := hlive.si.tr_le
    have HST := Lib.hid (show FoR w tag p V L l s fx (.int .i64 ((0 : Nat) : Int)) w from ⟨0, tag, _, s, us, Nat.zero_le _, rfl, Re.refl _ _, Chg.refl _ _, h, FoI.start hlive l⟩)
    have HT := Lib.hid hT
    have HLV := Lib.hid hlive
    have HA := Lib.hid hA
    have HN := Lib.hid hn
    have HLIT := Lib.hid hlit
    -- the way back
    have HBACK := Lib.hid (fun (W : World) (tag' : Nat → Tag) (y' : Lay) (s1 : St) (us' : List Int) (hr : Re w tag tag') (hc : Cg tag (Fr 9) w W) (hk : Chk W tag' p V y' s1.xs s1.wt s1.vs s1.tr us' fx (-1)) (hsi : SI V L s1) (hpre : ∃ new, s1.tr = s.tr ++ new) (hsame : Same1 s.xs s1.xs) (hw0 : Wi s1.xs s.tr s.tr) =>
      show CallsD Tryd.prog 41 #[.pointer (some ⟨p, 0, none⟩), .int .i64 (T : Nat)] .returning W (fun e u' w' => u' = .returning ∧ e = .returned (.tuple #[]) ∧ ∃ tag' y s us fx dd, Re w tag tag' ∧ Cg tag (Fr 9) w w' ∧ Chk w' tag' p V y s.xs s.wt s.vs s.tr us fx dd ∧ CkI V L s fx dd) from by
        have htl := hsi.tr_le
        obtain ⟨new, hnew⟩ := hpre
        have e1 : s1.tr.take T = s.tr := by rw [hnew, ← hT, List.take_left']; rfl
        have e2 : s1.tr.drop T = new := by rw [hnew, ← hT, List.drop_left']; rfl
        refine (back_d (u := .returning) hk hsi.vlen htl (n := T) (by rw [hnew, List.length_append]; omega) (fun x hx => (hsi.trv x hx).1) (by omega)).mono ?_
        rintro e u' w' ⟨rfl, rfl, tag2, vt2, hr2, hc2, hk2⟩
        rw [e1, e2] at hk2
        refine ⟨rfl, rfl, tag2, _, { s1 with vs := zeroed s1.vs new, tr := s.tr }, us', fx, -1, hr.trans hr2 hc.size, Cg.w89 hc hc2 hr, hk2, ?_⟩
        have hl := live_back (s1 := s1) (sb := { s1 with vs := zeroed s1.vs new, tr := s.tr }) hlive (hsi.back hnew) rfl rfl hsame hw0
        exact ⟨hl.si.xlen, hl.si.vlen, fun _ => hl, fun e => absurd rfl e⟩)
    clear hi hlive h hT hA hn hlit
    go_enter_defers Tryd.func20, Tryd.ntmps20
    go_wp2_with fail
    go_loopw [26] (fun iv wr => FoR w tag p V L l s fx iv wr) (fun iv _ => n - (intOf iv).toNat)
    case atStart => exact HST.out
    case round =>
      obtain ⟨i, tag1, y1, s1, us1, hil, rfl, hre, hcg, hck, hfo⟩ := hrel
      clear HST c3 c6
      rw [HN.out] at hil
      have HRE := Lib.hid hre
      have HCG := Lib.hid hcg
      have HCK := Lib.hid hck
      have HFO := Lib.hid hfo
      clear hre hcg hck hfo
      by_cases hlt : i < n
      · obtain ⟨m, hm⟩ : ∃ m, l[i]? = some m := ⟨_, List.getElem?_eq_getElem (by have := HN.out; omega)⟩
        obtain ⟨b, hb, htb, hcell⟩ := HA.out.resolve_left (by omega)
        subst hb
        have cm : wr.cell? ⟨b, i, none⟩ = some (.int .i64 m) := HCG.out.cells htb (hcell i _ (lit_at hm))
        have hlm : Lit V m := HLIT.out m (List.mem_of_getElem? hm)
        obtain ⟨v, hv⟩ : ∃ v, lv (va s1.vs) m = v := ⟨_, rfl⟩
        have hv3 := HFO.out.si.ok m
        have C := of_any HCK.out HFO.out.si.vlen HFO.out.si.vok hlm.2 (by omega)
        rw [hv] at C hv3
        have C := Lib.hid C
        have HM := Lib.hid hm
        have HV := Lib.hid hv
        have iI : (i : Int) < (n : Int) := by omega
        clear hm hv hcell htb
        by_cases h1 : v = 1
        · as_aux_lemma =>
          subst h1
          obtain ⟨j, hj⟩ : ∃ j, m.natAbs = j := ⟨_, rfl⟩
          obtain ⟨x, hx⟩ : ∃ x, us1[j]? = some x := ⟨_, List.getElem?_eq_getElem (by rw [HCK.out.ul, ← hj]; have := hlm.2; omega)⟩
          have c4 : wr.cell? ⟨p, 4, none⟩ = some (.slice (some ⟨y1.gu, 0, none⟩) (V + 1) (V + 1)) := HCK.out.blk.cell 4
          have cu : wr.cell? ⟨y1.gu, j, none⟩ = some (.int .i64 x) := HCK.out.usd.cell (lit_at hx)
          have CB := Lib.hid (HBACK.out wr tag1 y1 s1 us1 HRE.out HCG.out HCK.out HFO.out.si HFO.out.pre (by rw [HFO.out.xs]; exact Same1.refl _) (by rw [HFO.out.xs]; exact HLV.out.wi))
          have HRF := Lib.hid (HFO.out.true_ HM.out hlm HV.out)
          have hjV : (j : Int) < (V : Int) + 1 := by have := hlm.2; omega
          have hj1 : 1 ≤ j := by have := hlm.1; omega
          clear hx
          by_cases hneg : m < 0
          · obtain rfl : m = -(j : Int) := by omega
            have w1 : IntKind.i64.wrap (- -(j : Int)) = (j : Int) := by rw [IntKind.wrap_i64]; omega
            have hmx : max (-(j : Int)) (j : Int) = (j : Int) := by omega
            clear hj hlm
            go_wp2_with fail
            refine C.out.mono ?_
            rintro e w' ⟨rfl, rfl⟩
            go_wp2_with fail
            refine leaves_cons (f := 41) (args := #[.pointer (some ⟨p, 0, none⟩), .int .i64 (T : Nat)]) (by simp) (by simp [go_sem]) ?_
            refine CB.out.mono ?_
            rintro e u' w'' ⟨rfl, rfl, hend⟩
            exact ⟨_, results_tmp2 rfl _ _ _, _, true, rfl, ⟨fun _ => HRF.out, fun _ => rfl⟩, hend⟩
          · obtain rfl : m = (j : Int) := by omega
            have w1 : IntKind.i64.wrap (-(j : Int)) = -(j : Int) := by rw [IntKind.wrap_i64]; omega
            have hmx : max (j : Int) (-(j : Int)) = (j : Int) := by omega
            clear hj hlm
            go_wp2_with fail
            refine C.out.mono ?_
            rintro e w' ⟨rfl, rfl⟩
            go_wp2_with fail
            refine leaves_cons (f := 41) (args := #[.pointer (some ⟨p, 0, none⟩), .int .i64 (T : Nat)]) (by simp) (by simp [go_sem]) ?_
            refine CB.out.mono ?_
            rintro e u' w'' ⟨rfl, rfl, hend⟩
            exact ⟨_, results_tmp2 rfl _ _ _, _, true, rfl, ⟨fun _ => HRF.out, fun _ => rfl⟩, hend⟩
        by_cases h0 : v = 0
        · as_aux_lemma =>
          subst h0
          have CS := Lib.hid (set_any HCK.out HFO.out.si.vlen HFO.out.si.tr_le hlm.neg (by_ := -1) (by omega))
          have wm : IntKind.i64.wrap (-m) = -m := by rw [IntKind.wrap_i64]; have := hlm.2; omega
          go_wp2_with fail
          refine C.out.mono ?_
          rintro e w' ⟨rfl, rfl⟩
          go_wp2_with fail
          refine CS.out.mono ?_
          rintro e w3 ⟨rfl, tag3, vt3, hr3, hc3, hk3⟩
          have HN2 := Lib.hid (show FoR w tag p V L l s fx (.int .i64 ((i + 1 : Nat) : Int)) w3 from ⟨i + 1, tag3, _, setS s1 (-m), _, by have := HN.out; omega, rfl, HRE.out.trans hr3 HCG.out.size, Cg.w89 HCG.out hc3 HRE.out, hk3, HFO.out.set_ HM.out hlm HV.out⟩)
          clear hr3 hc3 hk3
          go_wp2_with fail
          go_roundw
          case rel => exact HN2.out
          case measure => simp [intOf]; omega
        · as_aux_lemma =>
          obtain rfl : v = -1 := by omega
          have HN2 := Lib.hid (show FoR w tag p V L l s fx (.int .i64 ((i + 1 : Nat) : Int)) wr from ⟨i + 1, tag1, y1, s1, us1, by have := HN.out; omega, rfl, HRE.out, HCG.out, HCK.out, HFO.out.skip HM.out hlm HV.out⟩)
          go_wp2_with fail
          refine C.out.mono ?_
          rintro e w' ⟨rfl, rfl⟩
          go_wp2_with fail
          go_roundw
          case rel => exact HN2.out
          case measure => simp [intOf]; omega
      · as_aux_lemma =>
        obtain rfl : i = n := by omega
        have hfo := HFO.out
        rw [← HN.out] at hfo
        have c5 : wr.cell? ⟨p, 5, none⟩ = some (.int .i64 (T : Nat)) := by have := HCK.out.blk.cell 5; rw [HLV.out.fx, HT.out] at this; exact this
        have CP := spread_any (hd0 := T) (L := L) (c := l) (tr0 := s.tr) HCK.out (by have := hfo.spread HLV.out; rw [HT.out] at this; exact this) hV (by omega) (by obtain ⟨new, e⟩ := hfo.pre; rw [e, List.length_append, HT.out]; omega)
        have CP := Lib.hid CP
        have HFE := Lib.hid hfo
        clear hfo hlt
        go_wp2_with fail
        refine CP.out.mono ?_
        rintro e w3 ⟨tag3, y3, s3, us3, hr3, hc3, hk3, hsi, hw0, hsame, hxl, hpre, himp, hend⟩
        have hsame' : Same1 s.xs s3.xs := by rw [← HFE.out.xs]; exact hsame
        have hpre' : ∃ new, s3.tr = s.tr ++ new := by
          obtain ⟨n1, e1⟩ := HFE.out.pre
          obtain ⟨n2, e2⟩ := hpre
          exact ⟨n1 ++ n2, by rw [e2, e1, List.append_assoc]⟩
        have CB := Lib.hid (HBACK.out w3 tag3 y3 s3 us3 (HRE.out.trans hr3 HCG.out.size) (HCG.out.trans_ hc3 HRE.out) hk3 hsi hpre' hsame' hw0)
        rcases hend with ⟨rfl, hw⟩ | ⟨k, rfl, hk, href⟩
        · have HNR := Lib.hid (HFE.out.no HLV.out HLIT.out hsi hsame hpre hw)
          clear hr3 hc3 hk3 hsi hw0 hsame hxl hpre himp hsame' hpre' hw
          go_wp2_with fail
          refine leaves_cons (f := 41) (args := #[.pointer (some ⟨p, 0, none⟩), .int .i64 (T : Nat)]) (by simp) (by simp [go_sem]) ?_
          refine CB.out.mono ?_
          rintro e u' w'' ⟨rfl, rfl, hend⟩
          exact ⟨_, results_tmp2 rfl _ _ _, _, false, rfl, ⟨(fun e => by cases e), fun e => absurd e HNR.out⟩, hend⟩
        · have HRF := Lib.hid href
          clear hr3 hc3 hk3 hsi hw0 hsame hxl hpre himp hsame' hpre' href
          go_wp2_with fail
          refine leaves_cons (f := 41) (args := #[.pointer (some ⟨p, 0, none⟩), .int .i64 (T : Nat)]) (by simp) (by simp [go_sem]) ?_
          refine CB.out.mono ?_
          rintro e u' w'' ⟨rfl, rfl, hend⟩
          exact ⟨_, results_tmp2 rfl _ _ _, _, true, rfl, ⟨fun _ => HRF.out, fun _ => rfl⟩, hend⟩
  · have hd := hi.dead hdd
    have hdd0 := hd.1.1
    have HE := Lib.hid (show Ref L l ∧ ∃ tag' y s us fx dd, Re w tag tag' ∧ Cg tag (Fr 9) w w ∧ Chk w tag' p V y s.xs s.wt s.vs s.tr us fx dd ∧ CkI V L s fx dd from ⟨hd.2.nil, tag, y, s, us, fx, dd, Re.refl _ _, Chg.refl _ _, h, hi⟩)
    clear h hi hA hlit hn hd hdd
    go_enter_defers Tryd.func20, Tryd.ntmps20
    go_wp2_with fail
    exact ⟨_, results_tmp2 rfl _ _ _, dd, true, rfl, ⟨fun _ => HE.out.1, fun _ => rfl⟩, HE.out.2⟩
end
end Go.Proofs.YtgchepkcjkhmmaaDoor
