/-
  WALK of (*checker).follows.
  WALK of rup.steps.
  WALK of rup.steps.
  WALK of rup.Check.
-/
import Derived.Test.YtgchepkcjkhmmaaDoorUo
import Derived.Test.YtgchepkcjkhmmaaDoorCx
namespace Go.Proofs.YtgchepkcjkhmmaaDoor
open Go.RowKit
section
variable {w w' : World} {tag tag' : Nat → Tag} {p V : Nat} {y : Lay} {L : List (List Int)} {s : St} {us : List Int} {fx dd : Int} {l : List Int}
/-- what follows leaves: whether it does -/
def FoP (w : World) (tag : Nat → Tag) (p V : Nat) (L : List (List Int)) (l : List Int) (e : Ending) (w' : World) : Prop :=
  ∃ (b : Int) (ok : Bool), e = .returned (.tuple #[.int .i64 b, .bool ok]) ∧ (ok = true ↔ Ref L l) ∧ ∃ tag' y s us fx dd, Re w tag tag' ∧ Cg tag (Fr 9) w w' ∧ Chk w' tag' p V y s.xs s.wt s.vs s.tr us fx dd ∧ CkI V L s fx dd
/-- amid the loop over a question's numbers -/
def FoR (w : World) (tag : Nat → Tag) (p V : Nat) (L : List (List Int)) (l : List Int) (s0 : St) (fx : Int) (iv : Value) (wr : World) : Prop :=
  ∃ (i : Nat) (tag' : Nat → Tag) (y : Lay) (s : St) (us : List Int), i ≤ l.length ∧ iv = .int .i64 (i : Nat) ∧ Re w tag tag' ∧ Cg tag (Fr 9) w wr ∧ Chk wr tag' p V y s.xs s.wt s.vs s.tr us fx (-1) ∧ FoI V L l s0 s i
theorem Cg.cells {b j : Nat} {x : Value} (hc : Cg tag (Fr 9) w w') (ht : tag b = (0, 0)) (hx : w.cell? ⟨b, j, none⟩ = some x) : w'.cell? ⟨b, j, none⟩ = some x := by
  rw [← hx]
  refine World.cell?_of_block ?_
  cases e : w.heap[b]? with
  | none => rw [World.cell?] at hx; simp [e] at hx
  | some o => exact hc.keep b o e (by show ¬ Fr 9 (tag b); rw [ht]; exact fun h => absurd h.1 (by decide))
set_option maxRecDepth 100000 in
set_option maxHeartbeats 4000000 in
theorem follows_any (h : Chk w tag p V y s.xs s.wt s.vs s.tr us fx dd) (hi : CkI V L s fx dd) (hV : V ≤ 150000) (hL : L.length ≤ 900000) {A : Option Addr} {n c : Nat} (hn : l.length = n) (hn5 : n ≤ 100000) (hlit : ∀ m ∈ l, Lit V m)
    (hA : n = 0 ∨ ∃ b, A = some ⟨b, 0, none⟩ ∧ tag b = (0, 0) ∧ ∀ (j : Nat) u, (litVals l)[j]? = some u → w.cell? ⟨b, j, none⟩ = some u) :
    Calls Tryd.prog 20 #[.pointer (some ⟨p, 0, none⟩), .slice A n c] w (FoP w tag p V L l) := by
  have c6 : w.cell? ⟨p, 6, none⟩ = some (.int .i64 dd) := h.blk.cell 6
  by_cases hdd : dd = -1
  · subst hdd
    have hlive := hi.live rfl
    obtain ⟨vC, rows, bm, gv, gu, vt, wv⟩ := y
    obtain ⟨T, hT⟩ : ∃ T, s.tr.length = T := ⟨_, rfl⟩
    obtain ⟨At, ct, hvt⟩ := h.trl.form
    rw [litVals_len, hT] at hvt
    dsimp only at hvt
    subst hvt
    have c3 : w.cell? ⟨p, 3, none⟩ = some (.slice At T ct) := h.blk.cell 3
    have htV := hlive.si.tr_le
    have HST := Lib.hid (show FoR w tag p V L l s fx (.int .i64 ((0 : Nat) : Int)) w from ⟨0, tag, _, s, us, Nat.zero_le _, rfl, Re.refl _ _, Chg.refl _ _, h, FoI.start hlive l⟩)
    have HT := Lib.hid hT
    have HLV := Lib.hid hlive
    have HA := Lib.hid hA
    have HN := Lib.hid hn
    have HLIT := Lib.hid hlit
    -- the way back
    have HBACK := Lib.hid (fun (W : World) (tag' : Nat → Tag) (y' : Lay) (s1 : St) (us' : List Int) (hr : Re w tag tag') (hc : Cg tag (Fr 9) w W) (hk : Chk W tag' p V y' s1.xs s1.wt s1.vs s1.tr us' fx (-1)) (hsi : SI V L s1) (hpre : ∃ new, s1.tr = s.tr ++ new) (hsame : Same1 s.xs s1.xs) (hw0 : Wi s1.xs s.tr s.tr) =>
      show CallsD Tryd.prog 41 #[.pointer (some ⟨p, 0, none⟩), .int .i64 (T : Nat)] .returning W (fun e u' w' => u' = .returning ∧ e = .returned (.tuple #[]) ∧ ∃ tag' y s us fx dd, Re w tag tag' ∧ Cg tag (Fr 9) w w' ∧ Chk w' tag' p V y s.xs s.wt s.vs s.tr us fx dd ∧ CkI V L s fx dd) from by
        have htl := hsi.tr_le
        obtain ⟨new, hnew⟩ := hpre
        have e1 : s1.tr.take T = s.tr := by rw [hnew, ← hT, List.take_left']; rfl
        have e2 : s1.tr.drop T = new := by rw [hnew, ← hT, List.drop_left']; rfl
        refine (back_d (u := .returning) hk hsi.vlen htl (n := T) (by rw [hnew, List.length_append]; omega) (fun x hx => (hsi.trv x hx).1) (by omega)).mono ?_
        rintro e u' w' ⟨rfl, rfl, tag2, vt2, hr2, hc2, hk2⟩
        rw [e1, e2] at hk2
        refine ⟨rfl, rfl, tag2, _, { s1 with vs := zeroed s1.vs new, tr := s.tr }, us', fx, -1, hr.trans hr2 hc.size, Cg.w89 hc hc2 hr, hk2, ?_⟩
        have hl := live_back (s1 := s1) (sb := { s1 with vs := zeroed s1.vs new, tr := s.tr }) hlive (hsi.back hnew) rfl rfl hsame hw0
        exact ⟨hl.si.xlen, hl.si.vlen, fun _ => hl, fun e => absurd rfl e⟩)
    clear hi hlive h hT hA hn hlit
    go_enter_defers Tryd.func20, Tryd.ntmps20
    go_wp2_with fail
    go_loopw [26] (fun iv wr => FoR w tag p V L l s fx iv wr) (fun iv _ => n - (intOf iv).toNat)
    case atStart => exact HST.out
    case round =>
      obtain ⟨i, tag1, y1, s1, us1, hil, rfl, hre, hcg, hck, hfo⟩ := hrel
      clear HST c3 c6
      rw [HN.out] at hil
      have HRE := Lib.hid hre
      have HCG := Lib.hid hcg
      have HCK := Lib.hid hck
      have HFO := Lib.hid hfo
      clear hre hcg hck hfo
      by_cases hlt : i < n
      · obtain ⟨m, hm⟩ : ∃ m, l[i]? = some m := ⟨_, List.getElem?_eq_getElem (by have := HN.out; omega)⟩
        obtain ⟨b, hb, htb, hcell⟩ := HA.out.resolve_left (by omega)
        subst hb
        have cm : wr.cell? ⟨b, i, none⟩ = some (.int .i64 m) := HCG.out.cells htb (hcell i _ (lit_at hm))
        have hlm : Lit V m := HLIT.out m (List.mem_of_getElem? hm)
        obtain ⟨v, hv⟩ : ∃ v, lv (va s1.vs) m = v := ⟨_, rfl⟩
        have hv3 := HFO.out.si.ok m
        have C := of_any HCK.out HFO.out.si.vlen HFO.out.si.vok hlm.2 (by omega)
        rw [hv] at C hv3
        have C := Lib.hid C
        have HM := Lib.hid hm
        have HV := Lib.hid hv
        have iI : (i : Int) < (n : Int) := by omega
        clear hm hv hcell htb
        by_cases h1 : v = 1
        · as_aux_lemma =>
          subst h1
          obtain ⟨j, hj⟩ : ∃ j, m.natAbs = j := ⟨_, rfl⟩
          obtain ⟨x, hx⟩ : ∃ x, us1[j]? = some x := ⟨_, List.getElem?_eq_getElem (by rw [HCK.out.ul, ← hj]; have := hlm.2; omega)⟩
          have c4 : wr.cell? ⟨p, 4, none⟩ = some (.slice (some ⟨y1.gu, 0, none⟩) (V + 1) (V + 1)) := HCK.out.blk.cell 4
          have cu : wr.cell? ⟨y1.gu, j, none⟩ = some (.int .i64 x) := HCK.out.usd.cell (lit_at hx)
          have CB := Lib.hid (HBACK.out wr tag1 y1 s1 us1 HRE.out HCG.out HCK.out HFO.out.si HFO.out.pre (by rw [HFO.out.xs]; exact Same1.refl _) (by rw [HFO.out.xs]; exact HLV.out.wi))
          have HRF := Lib.hid (HFO.out.true_ HM.out hlm HV.out)
          have hjV : (j : Int) < (V : Int) + 1 := by have := hlm.2; omega
          have hj1 : 1 ≤ j := by have := hlm.1; omega
          clear hx
          by_cases hneg : m < 0
          · obtain rfl : m = -(j : Int) := by omega
            have w1 : IntKind.i64.wrap (- -(j : Int)) = (j : Int) := by rw [IntKind.wrap_i64]; omega
            have hmx : max (-(j : Int)) (j : Int) = (j : Int) := by omega
            clear hj hlm
            go_wp2_with fail
            refine C.out.mono ?_
            rintro e w' ⟨rfl, rfl⟩
            go_wp2_with fail
            refine leaves_cons (f := 41) (args := #[.pointer (some ⟨p, 0, none⟩), .int .i64 (T : Nat)]) (by simp) (by simp [go_sem]) ?_
            refine CB.out.mono ?_
            rintro e u' w'' ⟨rfl, rfl, hend⟩
            exact ⟨_, results_tmp2 rfl _ _ _, _, true, rfl, ⟨fun _ => HRF.out, fun _ => rfl⟩, hend⟩
          · obtain rfl : m = (j : Int) := by omega
            have w1 : IntKind.i64.wrap (-(j : Int)) = -(j : Int) := by rw [IntKind.wrap_i64]; omega
            have hmx : max (j : Int) (-(j : Int)) = (j : Int) := by omega
            clear hj hlm
            go_wp2_with fail
            refine C.out.mono ?_
            rintro e w' ⟨rfl, rfl⟩
            go_wp2_with fail
            refine leaves_cons (f := 41) (args := #[.pointer (some ⟨p, 0, none⟩), .int .i64 (T : Nat)]) (by simp) (by simp [go_sem]) ?_
            refine CB.out.mono ?_
            rintro e u' w'' ⟨rfl, rfl, hend⟩
            exact ⟨_, results_tmp2 rfl _ _ _, _, true, rfl, ⟨fun _ => HRF.out, fun _ => rfl⟩, hend⟩
        by_cases h0 : v = 0
        · as_aux_lemma =>
          subst h0
          have CS := Lib.hid (set_any HCK.out HFO.out.si.vlen HFO.out.si.tr_le hlm.neg (by_ := -1) (by omega))
          have wm : IntKind.i64.wrap (-m) = -m := by rw [IntKind.wrap_i64]; have := hlm.2; omega
          go_wp2_with fail
          refine C.out.mono ?_
          rintro e w' ⟨rfl, rfl⟩
          go_wp2_with fail
          refine CS.out.mono ?_
          rintro e w3 ⟨rfl, tag3, vt3, hr3, hc3, hk3⟩
          have HN2 := Lib.hid (show FoR w tag p V L l s fx (.int .i64 ((i + 1 : Nat) : Int)) w3 from ⟨i + 1, tag3, _, setS s1 (-m), _, by have := HN.out; omega, rfl, HRE.out.trans hr3 HCG.out.size, Cg.w89 HCG.out hc3 HRE.out, hk3, HFO.out.set_ HM.out hlm HV.out⟩)
          clear hr3 hc3 hk3
          go_wp2_with fail
          go_roundw
          case rel => exact HN2.out
          case measure => simp [intOf]; omega
        · as_aux_lemma =>
          obtain rfl : v = -1 := by omega
          have HN2 := Lib.hid (show FoR w tag p V L l s fx (.int .i64 ((i + 1 : Nat) : Int)) wr from ⟨i + 1, tag1, y1, s1, us1, by have := HN.out; omega, rfl, HRE.out, HCG.out, HCK.out, HFO.out.skip HM.out hlm HV.out⟩)
          go_wp2_with fail
          refine C.out.mono ?_
          rintro e w' ⟨rfl, rfl⟩
          go_wp2_with fail
          go_roundw
          case rel => exact HN2.out
          case measure => simp [intOf]; omega
      · as_aux_lemma =>
        obtain rfl : i = n := by omega
        have hfo := HFO.out
        rw [← HN.out] at hfo
        have c5 : wr.cell? ⟨p, 5, none⟩ = some (.int .i64 (T : Nat)) := by have := HCK.out.blk.cell 5; rw [HLV.out.fx, HT.out] at this; exact this
        have CP := spread_any (hd0 := T) (L := L) (c := l) (tr0 := s.tr) HCK.out (by have := hfo.spread HLV.out; rw [HT.out] at this; exact this) hV (by omega) (by obtain ⟨new, e⟩ := hfo.pre; rw [e, List.length_append, HT.out]; omega)
        have CP := Lib.hid CP
        have HFE := Lib.hid hfo
        clear hfo hlt
        go_wp2_with fail
        refine CP.out.mono ?_
        rintro e w3 ⟨tag3, y3, s3, us3, hr3, hc3, hk3, hsi, hw0, hsame, hxl, hpre, himp, hend⟩
        have hsame' : Same1 s.xs s3.xs := by rw [← HFE.out.xs]; exact hsame
        have hpre' : ∃ new, s3.tr = s.tr ++ new := by
          obtain ⟨n1, e1⟩ := HFE.out.pre
          obtain ⟨n2, e2⟩ := hpre
          exact ⟨n1 ++ n2, by rw [e2, e1, List.append_assoc]⟩
        have CB := Lib.hid (HBACK.out w3 tag3 y3 s3 us3 (HRE.out.trans hr3 HCG.out.size) (HCG.out.trans_ hc3 HRE.out) hk3 hsi hpre' hsame' hw0)
        rcases hend with ⟨rfl, hw⟩ | ⟨k, rfl, hk, href⟩
        · have HNR := Lib.hid (HFE.out.no HLV.out HLIT.out hsi hsame hpre hw)
          clear hr3 hc3 hk3 hsi hw0 hsame hxl hpre himp hsame' hpre' hw
          go_wp2_with fail
          refine leaves_cons (f := 41) (args := #[.pointer (some ⟨p, 0, none⟩), .int .i64 (T : Nat)]) (by simp) (by simp [go_sem]) ?_
          refine CB.out.mono ?_
          rintro e u' w'' ⟨rfl, rfl, hend⟩
          exact ⟨_, results_tmp2 rfl _ _ _, _, false, rfl, ⟨(fun e => by cases e), fun e => absurd e HNR.out⟩, hend⟩
        · have HRF := Lib.hid href
          clear hr3 hc3 hk3 hsi hw0 hsame hxl hpre himp hsame' hpre' href
          go_wp2_with fail
          refine leaves_cons (f := 41) (args := #[.pointer (some ⟨p, 0, none⟩), .int .i64 (T : Nat)]) (by simp) (by simp [go_sem]) ?_
          refine CB.out.mono ?_
          rintro e u' w'' ⟨rfl, rfl, hend⟩
          exact ⟨_, results_tmp2 rfl _ _ _, _, true, rfl, ⟨fun _ => HRF.out, fun _ => rfl⟩, hend⟩
  · have hd := hi.dead hdd
    have hdd0 := hd.1.1
    have HE := Lib.hid (show Ref L l ∧ ∃ tag' y s us fx dd, Re w tag tag' ∧ Cg tag (Fr 9) w w ∧ Chk w tag' p V y s.xs s.wt s.vs s.tr us fx dd ∧ CkI V L s fx dd from ⟨hd.2.nil, tag, y, s, us, fx, dd, Re.refl _ _, Chg.refl _ _, h, hi⟩)
    clear h hi hA hlit hn hd hdd
    go_enter_defers Tryd.func20, Tryd.ntmps20
    go_wp2_with fail
    exact ⟨_, results_tmp2 rfl _ _ _, dd, true, rfl, ⟨fun _ => HE.out.1, fun _ => rfl⟩, HE.out.2⟩
end
end Go.Proofs.YtgchepkcjkhmmaaDoor
namespace Go.Proofs.YtgchepkcjkhmmaaDoor
open Go.RowKit
/-! ### plain: what a proof's fault is -/
open Classical in
noncomputable def pfR (v : Int) : List (List Int) → Nat → Bool → List (List Int) → Int × Int
  | _, _, fin, [] => if fin = true then (0, -1) else (8, -1)
  | L, i, fin, c :: r => if okC v c = true then (if Ref L c then pfR v (L ++ [c]) (i + 1) (fin || c.isEmpty) r else (8, (i : Int))) else (3, (i : Int))
def PfIs (v : Int) (cs pf : List (List Int)) (c at_ : Int) : Prop := (c ≠ 0 ∧ FaultIs v cs c at_) ∨ (FaultIs v cs 0 (-1) ∧ (c, at_) = pfR v cs 0 false pf)
/-- the first clause without numbers -/
def FirstE (pf : List (List Int)) (q : Nat) : Prop := pf[q]? = some [] ∧ ∀ c ∈ pf.take q, c ≠ []
theorem okC_lit {V : Nat} {l : List Int} (h : okC (V : Int) l = true) : ∀ m ∈ l, Lit V m := fun m hm => by
  unfold okC at h
  have h1 : l.any (badN (V : Int)) = false := by simpa using h
  have h2 := List.any_eq_false.1 h1 m hm
  unfold badN at h2
  simp only [Bool.or_eq_true, beq_iff_eq, decide_eq_true_eq, not_or] at h2
  exact ⟨h2.1.1, by omega⟩
theorem drop_at {pf : List (List Int)} {i : Nat} {c : List Int} (h : pf[i]? = some c) : pf.drop i = c :: pf.drop (i + 1) := by
  obtain ⟨hlt, e⟩ := List.getElem?_eq_some_iff.1 h
  rw [List.drop_eq_getElem_cons hlt, e]
theorem take_atP {pf : List (List Int)} {i : Nat} {c : List Int} (h : pf[i]? = some c) : pf.take (i + 1) = pf.take i ++ [c] := by
  rw [List.take_add_one, h]; rfl
theorem faultIs_det {v : Int} {cs : List (List Int)} {c a : Int} (h : FaultIs v cs c a) (k : FaultIs v cs 0 (-1)) : c = 0 ∧ a = -1 := faultIs_eq h k
/-! ### a new checker -/
def newTag (p bm gv gu : Nat) : Nat → Tag := fun g => if g = p then (1, 0) else if g = bm then (7, 0) else if g = gv then (4, 0) else if g = gu then (5, 0) else (0, 0)
theorem rawMap_new {P : Program} {k : TypeId} {w : World} {b V : Nat} (hb : w.heap[b]? = some (.map #[] 0)) : RawMap P k w b V (fun _ => .slice none 0 0) := by
  have hlt := (Array.getElem?_eq_some_iff.1 hb).1
  let w0 : World := { w with heap := w.heap.extract 0 b }
  have hs : w0.heap.size = b := by show (w.heap.extract 0 b).size = b; simp; omega
  have h := RawMap.made w0 P k V
  rw [hs] at h
  refine h.keep ?_
  rw [hb, ← hs]
  exact (heap_alloc_new w0 _).symm
theorem chk_new {w : World} {p bm gv gu V : Nat} (hp : Blk w p 56 #[.slice none 0 0, .map (some bm), .slice (some ⟨gv, 0, none⟩) (V + 1) (V + 1), .slice none 0 0, .slice (some ⟨gu, 0, none⟩) (V + 1) (V + 1), .int .i64 0, .int .i64 (-1)])
    (hm : w.heap[bm]? = some (.map #[] 0)) (hv : Blk w gv 73 (i8Vals (List.replicate (V + 1) 0)).toArray) (hu : Blk w gu 3 (litVals (List.replicate (V + 1) 0)).toArray) (h1 : bm ≠ p) (h2 : gv ≠ p) (h3 : gu ≠ p) (h4 : gv ≠ bm) (h5 : gu ≠ bm) (h6 : gu ≠ gv) :
    Chk w (newTag p bm gv gu) p V ⟨.slice none 0 0, [], bm, gv, gu, .slice none 0 0, fun _ => .slice none 0 0⟩ [] (fun _ => []) (List.replicate (V + 1) 0) [] (List.replicate (V + 1) 0) 0 (-1) where
  blk := hp
  tp := by unfold newTag; rw [if_pos rfl]
  hdr := Row.nil _ _ _ _ _
  rlen := rfl
  cls k x u hx hu := by simp at hx
  val := by
    have := hv.cel (tag := newTag p bm gv gu) (t := (4, 0)) (by unfold newTag; rw [if_neg h2, if_neg h4, if_pos rfl])
    simpa using this
  usd := by
    have := hu.cel (tag := newTag p bm gv gu) (t := (5, 0)) (by unfold newTag; rw [if_neg h3, if_neg h5, if_neg h6, if_pos rfl])
    simpa using this
  ul := by simp
  trl := Row.nil _ _ _ _ _
  tm := by unfold newTag; rw [if_neg h1, if_pos rfl]
  map := rawMap_new hm
  wts n hn := Row.nil _ _ _ _ _
theorem va_zero (V v : Nat) : va (List.replicate (V + 1) 0) v = 0 := by
  unfold va
  rw [List.getD_eq_getElem?_getD, List.getElem?_replicate]
  split <;> rfl
theorem si_new (V : Nat) : SI V [] ⟨[], fun _ => [], List.replicate (V + 1) 0, []⟩ where
  vlen := by simp
  vok x hx := .inr (.inl (List.eq_of_mem_replicate hx))
  trv n hn := by cases hn
  trs n _ hv := by
    have hv : lv (va (List.replicate (V + 1) 0)) n = 1 := hv
    unfold lv at hv
    rw [va_zero] at hv
    split at hv <;> omega
  trn := List.nodup_nil
  xlen := rfl
  xmem k x l hx := by cases hx
  xnd x hx := by cases hx
  xlit x hx := by cases hx
  wnd n := List.nodup_nil
  wiff n k := by
    constructor
    · intro h; cases h
    · rintro ⟨a, b, r, hx, _⟩; cases hx
theorem cki_new (V : Nat) : CkI V [] ⟨[], fun _ => [], List.replicate (V + 1) 0, []⟩ 0 (-1) where
  xlen := rfl
  vlen := by simp
  live _ := { si := si_new V, wi := (fun k a b r hx => by cases hx), un := (fun k a hx => by cases hx), ne := (fun x hx => by cases hx), fx := rfl, imp := (fun m hm => by cases hm) }
  dead h := absurd rfl h
set_option maxRecDepth 100000 in
theorem make_i8 (n : Nat) (hn : n ≤ 1000000) (w : World) : (Instr.makeSlice 53 (.int .i64 ((n : Int) + 1)) (.int .i64 ((n : Int) + 1))).run Tryd.prog w =
    .ok (.slice (some ⟨w.heap.size, 0, none⟩) (n + 1) (n + 1)) (w.alloc (.cells (i8Vals (List.replicate (n + 1) 0)).toArray 73)) := by
  obtain ⟨i0, hi, hz0, hz1, hz2⟩ := info_parts (show (Tryd.prog.info? 73).map (fun i => (i.zero, i.size, i.bytes)) = some (some (.int .i8 0), 1, 1) by kernel_rfl)
  have h := run_make_rowN (P := Tryd.prog) 53 73 i0 (.int .i8 0) Tryd.underlying53 hi hz0 .i64 .i64 (n + 1) (n + 1) (Nat.le_refl _) (by rw [hz2]; omega) (by omega) w
  have e0 : ((n + 1 : Nat) : Int) = (n : Int) + 1 := by omega
  rw [e0] at h
  rw [h]
  congr 3
  rw [hz1, Nat.mul_one]
  have e := toList_madeCells_one (.int .i8 0) (n + 1)
  have e2 : i8Vals (List.replicate (n + 1) 0) = List.replicate (n + 1) (Value.int .i8 0) := by unfold i8Vals; simp
  rw [e2, ← e]; rfl
set_option maxRecDepth 100000 in
theorem make_int (n : Nat) (hn : n ≤ 1000000) (w : World) : (Instr.makeSlice 27 (.int .i64 ((n : Int) + 1)) (.int .i64 ((n : Int) + 1))).run Tryd.prog w =
    .ok (.slice (some ⟨w.heap.size, 0, none⟩) (n + 1) (n + 1)) (w.alloc (.cells (litVals (List.replicate (n + 1) 0)).toArray 3)) := by
  obtain ⟨i0, hi, hz0, hz1, hz2⟩ := info_parts info_int
  have h := run_make_rowN (P := Tryd.prog) 27 3 i0 (.int .i64 0) Tryd.underlying27 hi hz0 .i64 .i64 (n + 1) (n + 1) (Nat.le_refl _) (by rw [hz2]; omega) (by omega) w
  have e0 : ((n + 1 : Nat) : Int) = (n : Int) + 1 := by omega
  rw [e0] at h
  rw [h]
  congr 3
  rw [hz1, Nat.mul_one]
  have e := toList_madeCells_one (.int .i64 0) (n + 1)
  have e2 : litVals (List.replicate (n + 1) 0) = List.replicate (n + 1) (Value.int .i64 0) := by unfold litVals; simp
  rw [e2, ← e]; rfl
theorem make_map (w : World) : (Instr.makeMap 52 none).run Tryd.prog w = .ok (.map (some w.heap.size)) (w.alloc (.map #[] 0)) := by
  simp [Instr.makeMap]
/-- a checker that is there: what it was made in has not turned -/
def Ready (w : World) (p V : Nat) (L : List (List Int)) (wr : World) : Prop :=
  ∃ tag y s us fx dd, (∀ g, g < w.heap.size → tag g = (0, 0)) ∧ Below w.heap.size w wr ∧ Chk wr tag p V y s.xs s.wt s.vs s.tr us fx dd ∧ CkI V L s fx dd
/-- steps' answer -/
def SgP (w : World) (ea : Nat → Addr) (v : Int) (cs pf : List (List Int)) (e : Ending) (w' : World) : Prop :=
  ∃ cv en ev c at_, e = .returned (.tuple #[cv, .int .i64 en, ev]) ∧ Below w.heap.size w w' ∧ PfIs v cs pf c at_ ∧ EvC w' ea ev c at_ ∧ (c = 0 → ∃ q : Nat, en = q ∧ FirstE pf q)
end Go.Proofs.YtgchepkcjkhmmaaDoor
namespace Go.Proofs.YtgchepkcjkhmmaaDoor
open Go.RowKit
theorem clsr_all {w : World} {base : Nat} {A : Option Addr} {n c : Nat} {cs : List (List Int)} (h : CsAt w base (.slice A n c) cs) : ClsR w w.heap.size A cs := clsr_of_own h
/-- a clause's slice, out of the row -/
theorem csat_at {w : World} {base : Nat} {A : Option Addr} {n c : Nat} {cs : List (List Int)} (h : CsAt w base (.slice A n c) cs) {i : Nat} {l : List Int} (hi : cs[i]? = some l) :
    ∃ g u, A = some ⟨g, 0, none⟩ ∧ w.cell? ⟨g, i, none⟩ = some u ∧ w.ownsRow base 3 1 u l.length (litVals l) := by
  obtain ⟨rows, h1, h2⟩ := h
  obtain ⟨u, h3, h4⟩ := h2 i l hi
  have hlt : 0 < cs.length := by have := (List.getElem?_eq_some_iff.1 hi).1; omega
  obtain ⟨g, cap, hv, _, _⟩ := h1.form hlt
  have hA : A = some ⟨g, 0, none⟩ := by simp only [Value.slice.injEq] at hv; exact hv.1
  subst hA
  have h5 := h1.cells (g := g) rfl i _ h3
  have e : (⟨g, 0, none⟩ : Addr).add i = ⟨g, i, none⟩ := by
    unfold Addr.add; split
    · rename_i h0; rw [h0]
    · simp
  rw [e] at h5
  exact ⟨g, u, rfl, h5, h4⟩
/-- clauses that can be read: the rows are owned, their header lies where it may -/
def CsIn (w : World) (base : Nat) (A : Option Addr) (cs : List (List Int)) : Prop := ∀ (i : Nat) (l : List Int), cs[i]? = some l → ∃ g u, A = some ⟨g, 0, none⟩ ∧ w.cell? ⟨g, i, none⟩ = some u ∧ w.ownsRow base 3 1 u l.length (litVals l)
theorem CsAt.in_ {w : World} {base : Nat} {A : Option Addr} {n c : Nat} {cs : List (List Int)} (h : CsAt w base (.slice A n c) cs) : CsIn w base A cs := fun _ _ hi => csat_at h hi
theorem CsIn.chg {w w' : World} {base : Nat} {A : Option Addr} {cs : List (List Int)} (h : CsIn w base A cs) (hb : Below w.heap.size w w') : CsIn w' base A cs := fun i l hi => by
  obtain ⟨g, u, h1, h2, h3⟩ := h i l hi
  exact ⟨g, u, h1, (hb.cell (p := ⟨g, i, none⟩) (World.block_lt_of_cell? _ _ h2)).trans h2, own_chg (S := fun _ _ => False) h3 (Chg.of_new hb) (fun _ _ _ _ hs => hs)⟩
theorem ready_new {w W : World} {p bm gv gu V : Nat} (hb : Below w.heap.size w W) (hp : Blk W p 56 #[.slice none 0 0, .map (some bm), .slice (some ⟨gv, 0, none⟩) (V + 1) (V + 1), .slice none 0 0, .slice (some ⟨gu, 0, none⟩) (V + 1) (V + 1), .int .i64 0, .int .i64 (-1)])
    (hm : W.heap[bm]? = some (.map #[] 0)) (hv : Blk W gv 73 (i8Vals (List.replicate (V + 1) 0)).toArray) (hu : Blk W gu 3 (litVals (List.replicate (V + 1) 0)).toArray)
    (h : w.heap.size ≤ p ∧ w.heap.size ≤ bm ∧ w.heap.size ≤ gv ∧ w.heap.size ≤ gu ∧ bm ≠ p ∧ gv ≠ p ∧ gu ≠ p ∧ gv ≠ bm ∧ gu ≠ bm ∧ gu ≠ gv) : Ready w p V [] W := by
  obtain ⟨h1, h2, h3, h4, h5, h6, h7, h8, h9, h10⟩ := h
  refine ⟨_, _, _, _, _, _, fun g hg => ?_, hb, chk_new hp hm hv hu h5 h6 h7 h8 h9 h10, cki_new V⟩
  unfold newTag
  rw [if_neg (by omega), if_neg (by omega), if_neg (by omega), if_neg (by omega)]
theorem alloc4 (w : World) (o1 o2 o3 o4 : Obj) : let W := ((((w.alloc o1).alloc o2).alloc o3).alloc o4).drew
    W.heap[w.heap.size]? = some o1 ∧ W.heap[w.heap.size + 1]? = some o2 ∧ W.heap[w.heap.size + 1 + 1]? = some o3 ∧ W.heap[w.heap.size + 1 + 1 + 1]? = some o4 ∧ Below w.heap.size w W := by
  refine ⟨?_, ?_, ?_, ?_, ?_⟩
  · exact (Below.heap_alloc _ o4 _ (by simp <;> omega)).trans ((Below.heap_alloc _ o3 _ (by simp <;> omega)).trans ((Below.heap_alloc _ o2 _ (by simp)).trans (heap_alloc_new w o1)))
  · have e : w.heap.size + 1 = (w.alloc o1).heap.size := by simp
    rw [e]
    exact (Below.heap_alloc _ o4 _ (by simp <;> omega)).trans ((Below.heap_alloc _ o3 _ (by simp)).trans (heap_alloc_new (w.alloc o1) o2))
  · have e : w.heap.size + 1 + 1 = ((w.alloc o1).alloc o2).heap.size := by simp
    rw [e]
    exact (Below.heap_alloc _ o4 _ (by simp)).trans (heap_alloc_new ((w.alloc o1).alloc o2) o3)
  · have e : w.heap.size + 1 + 1 + 1 = (((w.alloc o1).alloc o2).alloc o3).heap.size := by simp
    rw [e]
    exact heap_alloc_new (((w.alloc o1).alloc o2).alloc o3) o4
  · exact below_drewN (((((Below.refl _ _).alloc (Nat.le_refl _) _).alloc (by simp) _).alloc (by simp <;> omega) _).alloc (by simp <;> omega) _) 1
/-- the loop over the formula's clauses -/
def SgA (w : World) (p V : Nat) (cs : List (List Int)) (iv : Value) (wr : World) : Prop := ∃ k : Nat, k ≤ cs.length ∧ iv = .int .i64 (k : Nat) ∧ Ready w p V (cs.take k) wr
theorem keep_ready {w1 wr w3 : World} {tag tag3 : Nat → Tag} (htag : ∀ g, g < w1.heap.size → tag g = (0, 0)) (hb : Below w1.heap.size w1 wr) (hr : Re wr tag tag3) (hc : Cg tag (Fr 9) wr w3) : (∀ g, g < w1.heap.size → tag3 g = (0, 0)) ∧ Below w1.heap.size w1 w3 :=
  ⟨fun g hg => (hr g (by have := hb.size; omega)).trans (htag g hg), hb.trans (hc.below_ (fun g hg h9 => by rw [htag g hg] at h9; exact absurd h9.1 (by decide)) hb.size)⟩
/-- the loop over the proof's clauses -/
def SgB (w : World) (p V : Nat) (cs pf : List (List Int)) (iv ev : Value) (wr : World) : Prop := ∃ (i : Nat) (en : Int), i ≤ pf.length ∧ iv = .int .i64 (i : Nat) ∧ ev = .int .i64 en ∧ Ready w p V (cs ++ pf.take i) wr ∧
  pfR (V : Int) cs 0 false pf = pfR (V : Int) (cs ++ pf.take i) i (decide (0 ≤ en)) (pf.drop i) ∧ ((en = -1 ∧ ∀ c ∈ pf.take i, c ≠ []) ∨ ∃ q : Nat, en = (q : Int) ∧ q < i ∧ FirstE pf q)
/-- the sentinels that a proof's fault names -/
structure Sen3 (w : World) (ea : Nat → Addr) : Prop where
  s : Sen w ea
  c8 : w.cell? ⟨2, 0, none⟩ = some (.iface 114 (.pointer (some (ea 8))))
theorem Sen3.below {w w' : World} {ea : Nat → Addr} (h : Sen3 w ea) (hb : Below w.heap.size w w') : Sen3 w' ea :=
  ⟨h.s.below hb, (hb.cell (World.block_lt_of_cell? _ _ h.c8)).trans h.c8⟩
set_option maxRecDepth 100000 in
set_option maxHeartbeats 4000000 in
theorem steps_any {w : World} {ea : Nat → Addr} {v : Int} {A A2 : Option Addr} {n c n2 c2 base base2 : Nat} {cs pf : List (List Int)} (hes : Sen3 w ea) (hcs : CsAt w base (.slice A n c) cs) (hn : cs.length = n) (hpf : CsIn w base2 A2 pf) (hn2 : pf.length = n2) (hp4 : n2 ≤ 400000)
    (hls : cs.length ≤ 500000 → ∀ x ∈ cs, x.length ≤ 100000) (hls2 : ∀ x ∈ pf, x.length ≤ 100000) :
    Calls Tryd.prog 13 #[.agg #[.int .i64 v, .slice A n c], .slice A2 n2 c2] w (SgP w ea v cs pf) := by
  obtain ⟨W0, hW0⟩ : ∃ W0, W0 = w.alloc (.cells #[.int .i64 v, .slice A n c] 32) := ⟨_, rfl⟩
  have hb0 : Below w.heap.size w W0 := by rw [hW0]; exact (Below.refl _ _).alloc (Nat.le_refl _) _
  have k0 : Blk W0 w.heap.size 32 #[.int .i64 v, .slice A n c] := by rw [hW0]; exact Blk.new w _ _
  have hcs0 := hcs.chg hb0
  have CC := Lib.hid (checkc_any (v := v) (c := c) hn (hes.below hb0).s (fun h5 x hx => by have := hls h5 x hx; omega) (clsr_all hcs0) (Nat.le_refl _))
  have c00 := k0.cell 0
  have c01 := k0.cell 1
  have HW0 := Lib.hid hW0
  have HB0 := Lib.hid hb0
  have K0 := Lib.hid k0
  have HES := Lib.hid hes
  have HCS := Lib.hid hcs0
  have HPF := Lib.hid hpf
  have HN := Lib.hid hn
  have HN2 := Lib.hid hn2
  have HLS := Lib.hid hls
  have HLS2 := Lib.hid hls2
  clear hW0 hb0 k0 hes hcs hcs0 hn hpf hn2 hls hls2
  go_enter Tryd.func13, Tryd.ntmps13
  go_upto_region 1 with fail
  rw [← HW0.out]
  go_wp2_with fail
  refine CC.out.mono ?_
  rintro e w1 ⟨ev, cd, pl, rfl, hb1, hfi, hev⟩
  have HFI := Lib.hid hfi
  have HEV := Lib.hid hev
  have HB1 := Lib.hid (HB0.out.trans (hb1.mono HB0.out.size))
  have HB01 := Lib.hid hb1
  have K1 := Lib.hid (K0.out.below hb1 K0.out.lt)
  clear hb1 c00 c01
  rcases hev.nil_iff with ⟨hc0, he0⟩ | ⟨hc0, t, a, he0⟩
  · subst hc0
    subst he0
    clear hfi hev
    obtain ⟨_, hpl, hok⟩ := faultIs_ok HFI.out (by omega)
    subst hpl
    obtain ⟨V, hV⟩ : ∃ V : Nat, v = (V : Int) := by
      unfold okF at hok
      simp only [Bool.and_eq_true, decide_eq_true_eq] at hok
      exact ⟨v.toNat, by omega⟩
    subst hV
    have hV5 : V ≤ 150000 ∧ n ≤ 500000 := by
      have := HN.out
      unfold okF at hok
      simp only [Bool.and_eq_true, decide_eq_true_eq] at hok
      omega
    have hal : ∀ x ∈ cs, okC (V : Int) x = true := by
      unfold okF at hok
      simp only [Bool.and_eq_true, List.all_eq_true] at hok
      exact fun x hx => hok.2 x hx
    have HAL := Lib.hid hal
    obtain ⟨hV1, hn5⟩ := hV5
    have HLS := Lib.hid (HLS.out (by have := HN.out; omega))
    clear hok hal
    have hlt1 : w.heap.size < w1.heap.size := K1.out.lt
    have c10 := K1.out.cell 0
    have c11 := K1.out.cell 1
    have mk1 := make_i8 V (by omega)
    have mk2 := make_int V (by omega)
    have mk3 := make_map
    have hw1 : IntKind.i64.wrap ((V : Int) + 1) = (V : Int) + 1 := by rw [IntKind.wrap_i64]; omega
    go_upto_region 7 with fail
    go_cut [8] (fun cv wx => ∃ p, cv = .pointer (some ⟨p, 0, none⟩) ∧ Ready w1 p V [] wx)
    case first =>
      go_region
      all_goals go_wp2
      all_goals go_meet
      all_goals
        obtain ⟨a1, a2, a3, a4, ab⟩ := alloc4 w1 _ _ _ _
        first
          | exact ⟨_, rfl, ready_new ab a4 a1 a2 a3 (by omega)⟩
          | exact ⟨_, rfl, ready_new ab a4 a1 a3 a2 (by omega)⟩
          | exact ⟨_, rfl, ready_new ab a4 a2 a1 a3 (by omega)⟩
          | exact ⟨_, rfl, ready_new ab a4 a2 a3 a1 (by omega)⟩
          | exact ⟨_, rfl, ready_new ab a4 a3 a1 a2 (by omega)⟩
          | exact ⟨_, rfl, ready_new ab a4 a3 a2 a1 (by omega)⟩
    case rest =>
    obtain ⟨p, rfl, hrd⟩ := hcut
    have hbx := hrd
    obtain ⟨_, _, _, _, _, _, _, hb2, _, _⟩ := hbx
    have K2 := Lib.hid (K1.out.below hb2 K1.out.lt)
    have HCS1 := Lib.hid (HCS.out.chg HB01.out)
    have HPF1 := Lib.hid (HPF.out.chg HB1.out)
    have HRD := Lib.hid hrd
    have c20 := K2.out.cell 0
    have c21 := K2.out.cell 1
    clear hrd hb2 c10 c11 mk1 mk2 mk3 hw1 CC HCS HPF
    go_wp2_with fail
    go_loopw [39] (fun iv wr => SgA w1 p V cs iv wr) (fun iv _ => cs.length - (intOf iv).toNat)
    case atStart => exact ⟨0, Nat.zero_le _, rfl, HRD.out⟩
    case round =>
      obtain ⟨k, hk, rfl, hrd⟩ := hrel
      clear c20 c21 HRD
      rw [HN.out] at hk
      have HRD := Lib.hid hrd
      obtain ⟨tag, y, s, us, fx, dd, htag, hbw, hck, hci⟩ := hrd
      have HTAG := Lib.hid htag
      have HBW := Lib.hid hbw
      have HCK := Lib.hid hck
      have HCI := Lib.hid hci
      clear htag hbw hck hci
      by_cases hkn : k < n
      · as_aux_lemma =>
        obtain ⟨l, hl⟩ : ∃ l, cs[k]? = some l := ⟨_, List.getElem?_eq_getElem (by have := HN.out; omega)⟩
        obtain ⟨g, u, hA, hu, hrow⟩ := csat_at (HCS1.out.chg HBW.out) hl
        subst hA
        have CA := add_any (l := l) HCK.out HCI.out hV1 (by rw [List.length_take]; omega) (HLS.out l (List.mem_of_getElem? hl)) (okC_lit (HAL.out l (List.mem_of_getElem? hl))) (rdO_own hrow)
        have CA := Lib.hid CA
        have HL := Lib.hid hl
        have hkI : (k : Int) < (n : Int) := by omega
        clear hl hrow
        go_wp2_with fail
        refine CA.out.mono ?_
        rintro e w3 ⟨rfl, tag3, y3, s3, us3, fx3, dd3, hr3, hc3, hk3, hi3⟩
        have HNX := Lib.hid (show SgA w1 p V cs (.int .i64 ((k + 1 : Nat) : Int)) w3 from ⟨k + 1, by have := HN.out; omega, rfl, tag3, y3, s3, us3, fx3, dd3, fun g' hg' => (hr3 g' (by have := HBW.out.size; omega)).trans (HTAG.out g' hg'), HBW.out.trans (hc3.below_ (fun g' hg' h9 => by rw [HTAG.out g' hg'] at h9; exact absurd h9.1 (by decide)) HBW.out.size), hk3, by rw [take_atP HL.out]; exact hi3⟩)
        clear hr3 hc3 hk3 hi3
        go_wp2_with fail
        go_roundw
        case rel => exact HNX.out
        case measure => have := HN.out; simp [intOf]; omega
      · as_aux_lemma =>
        obtain rfl : k = n := by omega
        have hrd0 := HRD.out
        rw [List.take_of_length_le (by rw [HN.out]; exact Nat.le_refl _)] at hrd0
        have HST := Lib.hid (show SgB w1 p V cs pf (.int .i64 ((0 : Nat) : Int)) (.int .i64 (-1)) wr from ⟨0, -1, Nat.zero_le _, rfl, rfl, by rw [List.take_zero, List.append_nil]; exact hrd0, by rw [List.take_zero, List.append_nil, List.drop_zero]; rfl, .inl ⟨rfl, fun c hc => by simp at hc⟩⟩)
        clear hrd0 HRD HTAG HBW HCK HCI hkn
        go_wp2_with fail
        go_loopw [49, 11] (fun iv ev wr => SgB w1 p V cs pf iv ev wr) (fun iv _ _ => pf.length - (intOf iv).toNat)
        case atStart => exact HST.out
        case round =>
          obtain ⟨i, en, hi, rfl, rfl, hrd, hpr, hen⟩ := hrel
          clear HST
          rw [HN2.out] at hi
          obtain ⟨tag, y, s, us, fx, dd, htag, hbw, hck, hci⟩ := hrd
          have HTAG := Lib.hid htag
          have HBW := Lib.hid hbw
          have HCK := Lib.hid hck
          have HCI := Lib.hid hci
          have HPR := Lib.hid hpr
          have HEN := Lib.hid hen
          have hen1 : -1 ≤ en := by rcases hen with ⟨h, _⟩ | ⟨q, h, _⟩ <;> omega
          clear htag hbw hck hci hpr hen
          by_cases hin : i < n2
          · obtain ⟨l, hl⟩ : ∃ l, pf[i]? = some l := ⟨_, List.getElem?_eq_getElem (by have := HN2.out; omega)⟩
            obtain ⟨g, u, hA, hu, hrow0⟩ := HPF1.out i l hl
            subst hA
            have hu2 : wr.cell? ⟨g, i, none⟩ = some u := (HBW.out.cell (p := ⟨g, i, none⟩) (World.block_lt_of_cell? _ _ hu)).trans hu
            obtain ⟨m, hm⟩ : ∃ m, l.length = m := ⟨_, rfl⟩
            have hm5 : m ≤ 100000 := by rw [← hm]; exact HLS2.out l (List.mem_of_getElem? hl)
            rw [hm] at hrow0
            have hrow : wr.ownsRow base2 3 1 u m (litVals l) := own_chg (S := fun _ _ => False) hrow0 (Chg.of_new HBW.out) (fun _ _ _ _ hs => hs)
            obtain ⟨A3, c3, hu3⟩ := own_form hrow0
            subst hu3
            have CR := Lib.hid (cright_any (v := (V : Int)) (c := c3) hm (by omega) (by omega) (Reads.of_own hrow) (Nat.le_refl _))
            have kf := (K1.out.below HBW.out K1.out.lt).cell 0
            have iI : (i : Int) < (n2 : Int) := by omega
            obtain ⟨bb, hbb⟩ : ∃ bb, okC (V : Int) l = bb := ⟨_, rfl⟩
            rw [hbb] at CR
            have HBB := Lib.hid hbb
            have HL := Lib.hid hl
            have HM := Lib.hid hm
            have HR0 := Lib.hid hrow0
            clear hl hu hrow hrow0 hm hbb
            go_wp2_with fail
            refine CR.out.mono ?_
            rintro e w2 ⟨rfl, hb2⟩
            have HB2 := Lib.hid (HBW.out.trans (hb2.mono HBW.out.size))
            have HCK2 := Lib.hid (HCK.out.new hb2)
            have HCG2 := Lib.hid (show Cg tag (Fr 9) wr w2 from cg_new hb2)
            clear hb2 kf
            have hpr := HPR.out
            rw [drop_at HL.out] at hpr
            cases bb with
            | false =>
              as_aux_lemma =>
              have hes2 := HES.out.below (HB1.out.trans (HB2.out.mono HB1.out.size))
              have ce := hes2.s.c3
              have HE := Lib.hid (show pfR (V : Int) cs 0 false pf = (3, (i : Int)) by rw [hpr]; unfold pfR; rw [if_neg (by rw [HBB.out]; simp)])
              clear hpr hes2
              go_wp2_with fail
              go_region
              all_goals
                go_wp2
                exact bodyPost_ret (v := .tuple #[.pointer none, .int .i64 0, .iface 58 (.pointer (some ⟨w2.heap.size, 0, none⟩))]) (by simp [results, Tryd.results13, go_sem]) rfl
                  ⟨_, 0, _, 3, (i : Int), rfl, (HB1.out.trans (HB2.out.mono HB1.out.size)).trans (below_drewN ((Below.refl _ _).alloc (HB1.out.trans (HB2.out.mono HB1.out.size)).size _) 1), .inr ⟨HFI.out, HE.out.symm⟩, .inr (.inr (.inr ⟨.inl rfl, w2.heap.size, rfl, ((Blk.new w2 _ _).drew).cell 0, ((Blk.new w2 _ _).drew).cell 1⟩)), fun h => by omega⟩
            | true =>
              have hlit := okC_lit HBB.out
              have hLL : (cs ++ pf.take i).length ≤ 900000 := by rw [List.length_append, List.length_take]; have := HN.out; omega
              have HR2 := Lib.hid (show w2.ownsRow base2 3 1 (.slice A3 m c3) m (litVals l) from own_chg (S := fun _ _ => False) HR0.out (Chg.of_new HB2.out) (fun _ _ _ _ hs => hs))
              have CF := follows_any (l := l) (c := c3) HCK2.out HCI.out hV1 hLL HM.out hm5 hlit (by
                by_cases h0 : m = 0
                · exact .inl h0
                · obtain ⟨b, cb, hvb, _, hlt⟩ := HR0.out.form (by omega)
                  have hAb : A3 = some ⟨b, 0, none⟩ := by simp only [Value.slice.injEq] at hvb; exact hvb.1
                  refine .inr ⟨b, hAb, HTAG.out b hlt, fun j x hx => ?_⟩
                  rcases rdO_own HR2.out with ⟨e0, _⟩ | ⟨b', c', e0, h1⟩
                  · rw [hAb] at e0; injection e0 with e0; cases e0
                  · rw [hAb] at e0; injection e0 with e0; injection e0 with e0; injection e0 with e0
                    rw [e0]; exact h1 j x hx)
              have CF := Lib.hid CF
              have HLIT := Lib.hid hlit
              clear hlit
              go_wp2_with fail
              refine CF.out.mono ?_
              rintro e w3 ⟨by_, ok, rfl, hok, tag3, y3, s3, us3, fx3, dd3, hr3, hc3, hk3, hi3⟩
              obtain ⟨ht3, hb3⟩ := keep_ready HTAG.out HB2.out hr3 hc3
              have HT3 := Lib.hid ht3
              have HB3 := Lib.hid hb3
              have HK3 := Lib.hid hk3
              have HI3 := Lib.hid hi3
              have HOK := Lib.hid hok
              clear ht3 hb3 hr3 hc3 hk3 hi3 hok
              cases ok with
              | false =>
                as_aux_lemma =>
                have hes2 := HES.out.below (HB1.out.trans (HB3.out.mono HB1.out.size))
                have ce := hes2.c8
                have HE := Lib.hid (show pfR (V : Int) cs 0 false pf = (8, (i : Int)) by rw [hpr]; unfold pfR; rw [if_pos HBB.out, if_neg (fun h => by have := HOK.out.2 h; cases this)])
                clear hpr hes2
                go_wp2_with fail
                go_region
                all_goals
                  go_wp2
                  exact bodyPost_ret (v := .tuple #[.pointer none, .int .i64 0, .iface 58 (.pointer (some ⟨w3.heap.size, 0, none⟩))]) (by simp [results, Tryd.results13, go_sem]) rfl
                    ⟨_, 0, _, 8, (i : Int), rfl, (HB1.out.trans (HB3.out.mono HB1.out.size)).trans (below_drewN ((Below.refl _ _).alloc (HB1.out.trans (HB3.out.mono HB1.out.size)).size _) 1), .inr ⟨HFI.out, HE.out.symm⟩, .inr (.inr (.inr ⟨.inr rfl, w3.heap.size, rfl, ((Blk.new w3 _ _).drew).cell 0, ((Blk.new w3 _ _).drew).cell 1⟩)), fun h => by omega⟩
              | true =>
                as_aux_lemma =>
                have HR3 := Lib.hid (show w3.ownsRow base2 3 1 (.slice A3 m c3) m (litVals l) from own_chg (S := fun _ _ => False) HR0.out (Chg.of_new HB3.out) (fun _ _ _ _ hs => hs))
                have CA := Lib.hid (add_any (l := l) HK3.out HI3.out hV1 hLL (by rw [HM.out]; exact hm5) HLIT.out (rdO_own HR3.out))
                obtain ⟨en2, hen2⟩ : ∃ en2 : Int, (if m = 0 ∧ en < 0 then (i : Int) else en) = en2 := ⟨_, rfl⟩
                have HNX := Lib.hid (fun (w4 : World) (h4 : AdP w3 tag3 p V (cs ++ pf.take i) l (.returned (.tuple #[])) w4) => show SgB w1 p V cs pf (.int .i64 ((i + 1 : Nat) : Int)) (.int .i64 en2) w4 from by
                  obtain ⟨_, tag4, y4, s4, us4, fx4, dd4, hr4, hc4, hk4, hi4⟩ := h4
                  obtain ⟨ht4, hb4⟩ := keep_ready HT3.out HB3.out hr4 hc4
                  have et : cs ++ pf.take (i + 1) = (cs ++ pf.take i) ++ [l] := by rw [take_atP HL.out, List.append_assoc]
                  have hfst : en2 = en ∨ (en2 = (i : Int) ∧ m = 0 ∧ en < 0) := by
                    rw [← hen2]; split
                    · rename_i h; exact .inr ⟨rfl, h⟩
                    · exact .inl rfl
                  refine ⟨i + 1, en2, by have := HN2.out; omega, rfl, rfl, ⟨tag4, y4, s4, us4, fx4, dd4, ht4, hb4, hk4, by rw [et]; exact hi4⟩, ?_, ?_⟩
                  · rw [hpr, et]
                    conv => lhs; unfold pfR
                    rw [if_pos HBB.out, if_pos (HOK.out.1 rfl)]
                    congr 1
                    have hle : l.isEmpty = decide (m = 0) := by
                      rw [← HM.out]; cases l <;> simp
                    rw [hle, ← hen2]
                    by_cases h0 : m = 0
                    · by_cases h1 : en < 0
                      · rw [if_pos ⟨h0, h1⟩, decide_eq_true h0, decide_eq_true (by omega : (0 : Int) ≤ (i : Int)), Bool.or_true]
                      · rw [if_neg (fun h => h1 h.2), decide_eq_true h0, decide_eq_true (by omega : 0 ≤ en), Bool.or_true]
                    · rw [if_neg (fun h => h0 h.1), decide_eq_false h0, Bool.or_false]
                  · rcases HEN.out with ⟨e1, hno⟩ | ⟨q, e1, hq, hfe⟩
                    · by_cases h0 : m = 0
                      · have : en2 = (i : Int) := by rw [← hen2, if_pos ⟨h0, by omega⟩]
                        have hl0 : l = [] := List.eq_nil_of_length_eq_zero (by rw [HM.out]; exact h0)
                        refine .inr ⟨i, this, by omega, ?_, hno⟩
                        rw [HL.out, hl0]
                      · refine .inl ⟨by rw [← hen2, if_neg (fun h => h0 h.1)]; exact e1, fun c hc => ?_⟩
                        rw [take_atP HL.out] at hc
                        rcases List.mem_append.1 hc with hc | hc
                        · exact hno c hc
                        · obtain rfl : c = l := by simpa using hc
                          intro e; subst e; exact h0 HM.out.symm
                    · exact .inr ⟨q, by rw [← hen2, if_neg (fun h => by omega)]; exact e1, by omega, hfe⟩)
                have HEN2 := Lib.hid hen2
                clear hpr hen2
                by_cases h0 : m = 0
                · by_cases h1 : en < 0
                  · have he2 : en2 = (i : Int) := by rw [← HEN2.out, if_pos ⟨h0, h1⟩]
                    subst he2
                    subst h0
                    go_wp2_with fail
                    refine CA.out.mono ?_
                    rintro e w4 h4
                    have he4 := h4.1
                    subst he4
                    have HF := Lib.hid (HNX.out w4 h4)
                    clear h4
                    go_wp2_with fail
                    go_roundw
                    case rel => exact HF.out
                    case measure => have := HN2.out; simp [intOf]; omega
                  · have he2 : en2 = en := by rw [← HEN2.out, if_neg (fun h => h1 h.2)]
                    subst he2
                    subst h0
                    have hd : decide (en2 < 0) = false := decide_eq_false h1
                    go_wp2_with fail
                    refine CA.out.mono ?_
                    rintro e w4 h4
                    have he4 := h4.1
                    subst he4
                    have HF := Lib.hid (HNX.out w4 h4)
                    clear h4
                    go_wp2_with fail
                    go_roundw
                    case rel => exact HF.out
                    case measure => have := HN2.out; simp [intOf]; omega
                · have he2 : en2 = en := by rw [← HEN2.out, if_neg (fun h => h0 h.1)]
                  subst he2
                  have hm0 : ((m : Int) == 0) = false := by simp; omega
                  go_wp2_with fail
                  refine CA.out.mono ?_
                  rintro e w4 h4
                  have he4 := h4.1
                  subst he4
                  have HF := Lib.hid (HNX.out w4 h4)
                  clear h4
                  go_wp2_with fail
                  go_roundw
                  case rel => exact HF.out
                  case measure => have := HN2.out; simp [intOf]; omega
          · as_aux_lemma =>
            obtain rfl : i = n2 := by omega
            have hpr := HPR.out
            rw [List.drop_eq_nil_of_le (by rw [HN2.out]; exact Nat.le_refl _)] at hpr
            have HBW2 := Lib.hid (HB1.out.trans (HBW.out.mono HB1.out.size))
            have hes2 := HES.out.below HBW2.out
            have ce := hes2.c8
            by_cases he : en = -1
            · have HE := Lib.hid (fun j => show SgP w ea (V : Int) cs pf (.returned (.tuple #[.pointer none, .int .i64 0, erV ea 8])) (wr.drewN j) from
                ⟨_, 0, _, 8, -1, rfl, below_drewN HBW2.out j, .inr ⟨HFI.out, by rw [hpr, he]; rfl⟩, .inr (.inr (.inl ⟨rfl, rfl, rfl⟩)), fun h => by omega⟩)
              subst he
              clear hpr hes2
              go_wp2_with fail
              go_quiet (fail)
              all_goals
                go_wp2_with fail
                exact bodyPost_ret (v := .tuple #[.pointer none, .int .i64 0, erV ea 8]) (by simp [results, Tryd.results13, go_sem, erV]) rfl (HE.out _)
            · have hq : ∃ q : Nat, en = (q : Int) ∧ FirstE pf q := by
                rcases HEN.out with ⟨h, _⟩ | ⟨q, h, _, h2⟩
                · exact absurd h he
                · exact ⟨q, h, h2⟩
              have HQ := Lib.hid hq
              have he0 : 0 ≤ en := by omega
              have HE := Lib.hid (show SgP w ea (V : Int) cs pf (.returned (.tuple #[.pointer (some ⟨p, 0, none⟩), .int .i64 en, .nilIface])) wr from
                ⟨_, en, _, 0, -1, rfl, HBW2.out, .inr ⟨HFI.out, by rw [hpr, decide_eq_true he0]; rfl⟩, .inl ⟨rfl, rfl⟩, fun _ => hq⟩)
              have he1 : decide (en < 0) = false := decide_eq_false (by omega)
              clear hpr hes2 ce hq he he0
              go_wp2_with fail
              exact bodyPost_ret (v := .tuple #[.pointer (some ⟨p, 0, none⟩), .int .i64 en, .nilIface]) (by simp [results, Tryd.results13, go_sem]) rfl HE.out
  · have HE := Lib.hid (show SgP w ea v cs pf (.returned (.tuple #[.pointer none, .int .i64 (0 : Nat), ev])) w1 from ⟨_, _, _, cd, pl, rfl, HB1.out, .inl ⟨by omega, HFI.out⟩, HEV.out, fun h => by omega⟩)
    subst he0
    clear hfi hev
    go_wp2_with fail
    exact bodyPost_ret (v := .tuple #[.pointer none, .int .i64 0, .iface t (.pointer (some a))]) (by simp [results, Tryd.results13, go_sem]) rfl HE.out
end Go.Proofs.YtgchepkcjkhmmaaDoor
namespace Go.Proofs.YtgchepkcjkhmmaaDoor
open Go.RowKit
def RcP (w : World) (ea : Nat → Addr) (v : Int) (cs pf : List (List Int)) (e : Ending) (w' : World) : Prop := ∃ ev c at_, e = .returned ev ∧ Below w.heap.size w w' ∧ PfIs v cs pf c at_ ∧ EvC w' ea ev c at_
set_option maxRecDepth 100000 in
theorem rcheck_any {w : World} {ea : Nat → Addr} {v : Int} {A A2 : Option Addr} {n c n2 c2 base base2 : Nat} {cs pf : List (List Int)} (hes : Sen3 w ea) (hcs : CsAt w base (.slice A n c) cs) (hn : cs.length = n) (hpf : CsIn w base2 A2 pf) (hn2 : pf.length = n2) (hp4 : n2 ≤ 400000)
    (hls : cs.length ≤ 500000 → ∀ x ∈ cs, x.length ≤ 100000) (hls2 : ∀ x ∈ pf, x.length ≤ 100000) :
    Calls Tryd.prog 7 #[.agg #[.int .i64 v, .slice A n c], .slice A2 n2 c2] w (RcP w ea v cs pf) := by
  obtain ⟨W0, hW0⟩ : ∃ W0, W0 = w.alloc (.cells #[.int .i64 v, .slice A n c] 32) := ⟨_, rfl⟩
  have hb0 : Below w.heap.size w W0 := by rw [hW0]; exact (Below.refl _ _).alloc (Nat.le_refl _) _
  have k0 : Blk W0 w.heap.size 32 #[.int .i64 v, .slice A n c] := by rw [hW0]; exact Blk.new w _ _
  have CS := Lib.hid (steps_any (v := v) (c := c) (c2 := c2) (hes.below hb0) (hcs.chg hb0) hn (hpf.chg hb0) hn2 hp4 hls hls2)
  have c00 := k0.cell 0
  have c01 := k0.cell 1
  have HW0 := Lib.hid hW0
  have HB0 := Lib.hid hb0
  clear hW0 hb0 k0 hes hcs hn hpf hn2 hls hls2
  go_enter Tryd.func7, Tryd.ntmps7
  go_upto_region 1 with fail
  rw [← HW0.out]
  go_wp2_with fail
  refine CS.out.mono ?_
  rintro e w1 ⟨cv, en, ev, cd, pl, rfl, hb1, hpi, hev, _⟩
  have HE := Lib.hid (show RcP w ea v cs pf (.returned ev) w1 from ⟨ev, cd, pl, rfl, HB0.out.trans (hb1.mono HB0.out.size), hpi, hev⟩)
  clear hb1 hpi hev
  go_wp2_with fail
  go_ret
  exact HE.out
end Go.Proofs.YtgchepkcjkhmmaaDoor
