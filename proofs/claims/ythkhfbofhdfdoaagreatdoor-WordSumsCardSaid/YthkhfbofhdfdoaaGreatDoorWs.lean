/- Plain laws and walks for the law WordSums; no condition. -/
import Derived.Test.YthkhfbofhdfdoaaGreatDoorWq
import Derived.Test.YthkhfbofhdfdoaaGreatDoorYt
import Derived.Test.YthkhfbofhdfdoaaGreatDoorYc
import Derived.Test.YthkhfbofhdfdoaaGreatDoorCl
import Derived.Test.YthkhfbofhdfdoaaGreatDoorN4
import Derived.Test.YthkhfbofhdfdoaaGreatDoorLn
namespace Go.Proofs.YthkhfbofhdfdoaaGreatDoor
open Go.RowKit
theorem ga_new (w:World) {B:Nat} (hB:B≤w.heap.size):GA (w.alloc (.cells #[.slice none 0 0,.int .i64 0,.map none] 27)) B w.heap.size []:=
 ⟨none,⟨Gm.Wf.nil,by simp,hB,⟨.slice none 0 0,Blk.new w _ _,World.ownsRow_nil _ _ _ _⟩,fun a b=>rfl⟩⟩
theorem own_val_ne {w:World} {base base' e e' n n':Nat} {v v' u u':Value} {xs ys:List Value} (h:w.ownsRow base e 1 v n xs) (h':w.ownsRow base' e' 1 v' n' ys) (hu:xs[0]? = some u) (hu':ys[0]? = some u') (hne:u≠u'):v.ownBlock=none∨v.ownBlock≠v'.ownBlock:=by
 have hn:0<n:=by have:=(List.getElem?_eq_some_iff.1 hu).1; have:=h.1; omega
 have hn':0<n':=by have:=(List.getElem?_eq_some_iff.1 hu').1; have:=h'.1; omega
 obtain ⟨A,c,rfl⟩:=own_form h
 obtain ⟨A',c',rfl⟩:=own_form h'
 obtain ⟨g,rfl,_,_⟩:=own_some h hn
 obtain ⟨g',rfl,_,_⟩:=own_some h' hn'
 right
 intro e
 have e:g=g':=by simpa [Value.ownBlock] using e
 subst e
 obtain ⟨x,hx,hc⟩:=own_cell (k:=0) h hn
 obtain ⟨x',hx',hc'⟩:=own_cell (k:=0) h' hn'
 rw [hc] at hc'
 rw [hu] at hx
 rw [hu'] at hx'
 injection hc' with e1
 injection hx with e2
 injection hx' with e3
 exact hne (by rw [e2,e3,e1])
theorem parts_new {w:World} {B:Nat} {A0 A1:Option Addr} {c0 c1:Nat} {xs ys:List Nat} (hx:Held w B A0 8 xs) (hy:Held w B A1 8 ys) :
  PartsAt (w.alloc (.cells #[.slice A0 8 c0,.slice A1 8 c1] 28)) B (some ⟨w.heap.size,0,none⟩) [xs,ys]:=by
 have hb:Below w.heap.size w (w.alloc (.cells #[.slice A0 8 c0,.slice A1 8 c1] 28)):=(Below.refl _ _).alloc (Nat.le_refl _) _
 have bk:=Blk.new w 28 #[.slice A0 8 c0,.slice A1 8 c1]
 refine ⟨_,_,rfl,bk,.inr rfl,fun i zs hz=>?_⟩
 match i,hz with
 | 0,hz=>
  obtain rfl:xs=zs:=by simpa using hz
  refine ⟨A0,c0,?_,?_⟩
  ·rw [hx.1]; exact bk.cell 0
  ·rw [hx.1]; exact hx.new hb
 | 1,hz=>
  obtain rfl:ys=zs:=by simpa using hz
  refine ⟨A1,c1,?_,?_⟩
  ·rw [hy.1]; exact bk.cell 1
  ·rw [hy.1]; exact hy.new hb
theorem two_plus:TwoOp ⟨#[43]⟩:=⟨by decide +kernel,by decide +kernel,by decide +kernel,by decide +kernel,by decide +kernel,by decide +kernel,by decide +kernel,by decide +kernel,by decide +kernel,by decide +kernel,by decide +kernel,by decide +kernel,by decide +kernel,by decide +kernel⟩
theorem two_minus:TwoOp ⟨#[45]⟩:=⟨by decide +kernel,by decide +kernel,by decide +kernel,by decide +kernel,by decide +kernel,by decide +kernel,by decide +kernel,by decide +kernel,by decide +kernel,by decide +kernel,by decide +kernel,by decide +kernel,by decide +kernel,by decide +kernel⟩
def kS:Nat:=sgK (7+1)+10*(7+1)*(7+1)
def Sgn (m:Bool) (op:ByteArray):Prop:=op=if m then ⟨#[45]⟩ else ⟨#[43]⟩
theorem of_pm {w:World} {B b LB:Nat} {gs:List Gm.Gate} {m:Bool} {op:ByteArray} (hop:Sgn m op) (h:GA w B b gs) (hL:Lvls w LB) (hLB:LB≤w.heap.size) {A0 A1:Option Addr} {c0 c1:Nat} {xs ys:List Nat} (hx:Held w B A0 8 xs) (hy:Held w B A1 8 ys) (gx:AllHas gs xs) (gy:AllHas gs ys)
  (hn:gs.length≤80000) :
  Calls Tryz.prog 7 #[.pointer (some ⟨b,0,none⟩),.string op,.slice (some ⟨w.heap.size,0,none⟩) 2 2] (w.alloc (.cells #[.slice A0 8 c0,.slice A1 8 c1] 28)) (OfP (w.alloc (.cells #[.slice A0 8 c0,.slice A1 8 c1] 28)) B b gs kS 8 (ws.opZ m gs xs ys) ((ws.opZ m gs xs ys).1,0)):=by
 have hb:Below w.heap.size w (w.alloc (.cells #[.slice A0 8 c0,.slice A1 8 c1] 28)):=(Below.refl _ _).alloc (Nat.le_refl _) _
 have e8:kS=1795:=rfl
 unfold Sgn at hop
 cases m with
 | false=>
  obtain rfl:op=⟨#[43]⟩:=hop
  exact of_two (k:=kS) (h.new hb) (hL.below hb hLB) (Nat.le_trans hLB hb.size) (parts_new hx hy) hx.1 hy.1 gx gy (by omega) two_plus fun W A0 A1 c0 c1 h1 h2 h3=>ints_plus (m:=7) h1 h2 h3 gx gy (by show gs.length+kS≤_; omega) (by omega)
 | true=>
  obtain rfl:op=⟨#[45]⟩:=hop
  exact of_two (k:=kS) (h.new hb) (hL.below hb hLB) (Nat.le_trans hLB hb.size) (parts_new hx hy) hx.1 hy.1 gx gy (by omega) two_minus fun W A0 A1 c0 c1 h1 h2 h3=>ints_minus (m:=7) h1 h2 h3 gx gy (by show gs.length+kS≤_; omega) (by omega)
namespace slv
theorem CsO.of_at {w:World} {base n:Nat} {A:Option Addr} {c:Nat} {F:List (List Int)} (h:CsAt w base (.slice A n c) F):CsO w A F:=fun i l hl=>by
 obtain ⟨rows,h1,h2⟩:=h
 obtain ⟨u,h3,h4⟩:=h2 i l hl
 have hi:i<F.length:=(List.getElem?_eq_some_iff.1 hl).1
 obtain ⟨g,c',hv,_,hlt⟩:=h1.form (by omega)
 injection hv with q1 q2 q3
 subst q1
 refine ⟨g,u,rfl,hlt,?_,own_base h4 (Nat.zero_le _)⟩
 have hr9:Row w (fun _=>(18,0)) (18,0) base 72 (.slice (some ⟨g,0,none⟩) rows.length c) rows:=by
  have hl2:rows.length=F.length:=by have:=h1.1; omega
  refine ⟨?_,fun _ _=>rfl⟩
  rw [hl2]
  rw [q2] at h1
  exact h1
 exact hr9.cell h3
end slv
def WsR (W:World) (B b:Nat) (av bv iv:Value) (wr:World):Prop:=
 ∃ k:Nat,k≤8∧iv = .int .i64 k∧(k=0→av = .slice none 0 0∧bv = .slice none 0 0)∧(∃ A c,av = .slice A k c)∧(∃ A c,bv = .slice A k c)∧GA wr B b (inps (2*k))∧Chg (GT B) W wr ∧
  wr.ownsRow W.heap.size 29 1 av k (natVals (ws.la k))∧wr.ownsRow W.heap.size 29 1 bv k (natVals (ws.lb k))
theorem la_succ (k:Nat):ws.la (k+1)=ws.la k++[4*k+2]:=by unfold ws.la; rw [List.range_succ,List.map_append]; rfl
theorem lb_succ (k:Nat):ws.lb (k+1)=ws.lb k++[4*k+4]:=by unfold ws.lb; rw [List.range_succ,List.map_append]; rfl
theorem l_apart {k:Nat} (hk:0<k):(natVals (ws.la k))[0]? = some (.int .i64 (2:Nat))∧(natVals (ws.lb k))[0]? = some (.int .i64 (4:Nat)):=by
 obtain ⟨j,rfl⟩:∃ j,k=j+1:=⟨k-1,by omega⟩
 refine ⟨natVals_at ?_,natVals_at ?_⟩
 ·unfold ws.la; rw [List.getElem?_map,List.getElem?_range (by omega)]; rfl
 ·unfold ws.lb; rw [List.getElem?_map,List.getElem?_range (by omega)]; rfl
attribute [local irreducible] wpSeq wpStill
open slv in
set_option maxRecDepth 100000 in
set_option maxHeartbeats 16000000 in
theorem sums_in {w:World} {LB:Nat} {ea:Nat→Addr} (hes:Sen3 w ea) (hL:Lvls w LB) (hLB:LB≤w.heap.size) {m k:Bool} {op back:ByteArray} (hop:Sgn m op) (hback:Sgn k back) :
  Calls Tryz.prog 3 #[.string op,.string back] w (slv.HoP w):=by
 obtain ⟨i0,hi0,hz0,hz1,hz2⟩:=info_parts infoLit_
 have HIN:=Lib.hid (show _∧_∧_∧_ from ⟨hi0,hz0,hz1,hz2⟩)
 have HES:=Lib.hid hes
 have HL:=Lib.hid hL
 have HLB:=Lib.hid hLB
 have HOP:=Lib.hid hop
 have HBACK:=Lib.hid hback
 have C5:=Lib.hid (five_any w)
 clear hes hL hLB hop hback hi0 hz0 hz1 hz2
 go_enter Tryz.func3,Tryz.ntmps3
 go_wp2_with fail
 refine C5.out.mono ?_
 rintro e w1 ⟨rfl,hb1⟩
 have HB1:=Lib.hid hb1
 have CH:=Lib.hid (holds_true (HES.out.below hb1).s)
 clear hb1
 go_wp2_with fail
 refine CH.out.mono ?_
 rintro e w2 ⟨rfl,hb2⟩
 have HB2:=Lib.hid (HB1.out.trans (hb2.mono HB1.out.size))
 clear hb2
 go_upto_region 2 with fail
 go_cut [44] (fun c wx=>c = .bool false∧wx=w2)
 case first=>
  have hop:=HOP.out
  unfold Sgn at hop
  cases m with
  | false=>
   obtain rfl:op=⟨#[43]⟩:=hop
   go_wp2_with fail
   go_meet
   exact ⟨rfl,rfl⟩
  | true=>
   obtain rfl:op=⟨#[45]⟩:=hop
   go_wp2_with fail
   go_meet
   exact ⟨rfl,rfl⟩
 case rest=>
 obtain ⟨e44,hwc⟩:=hcut
 subst e44
 rw [hwc]
 clear hwc
 go_upto_region 4 with fail
 go_cut [55] (fun c wx=>c = .bool false∧wx=w2)
 case first=>
  have hop:=HOP.out
  have hback:=HBACK.out
  unfold Sgn at hop hback
  cases m with
  | false=>
   obtain rfl:op=⟨#[43]⟩:=hop
   cases k with
   | false=>
    obtain rfl:back=⟨#[43]⟩:=hback
    go_wp2_with fail
    go_meet
    exact ⟨rfl,rfl⟩
   | true=>
    obtain rfl:back=⟨#[45]⟩:=hback
    go_wp2_with fail
    go_meet
    exact ⟨rfl,rfl⟩
  | true=>
   obtain rfl:op=⟨#[45]⟩:=hop
   cases k with
   | false=>
    obtain rfl:back=⟨#[43]⟩:=hback
    go_wp2_with fail
    go_meet
    exact ⟨rfl,rfl⟩
   | true=>
    obtain rfl:back=⟨#[45]⟩:=hback
    go_wp2_with fail
    go_meet
    exact ⟨rfl,rfl⟩
 case rest=>
 obtain ⟨e55,hwc⟩:=hcut
 subst e55
 rw [hwc]
 clear hwc
 obtain ⟨W2,hW2⟩:∃ W2,W2=w2.alloc (.cells #[.slice none 0 0,.int .i64 0,.map none] 27):=⟨_,rfl⟩
 have HG:=Lib.hid (show GA W2 w2.heap.size w2.heap.size (inps (2*0)) by rw [hW2]; exact ga_new w2 (Nat.le_refl _))
 have HB3:=Lib.hid (show Below w2.heap.size w2 W2 by rw [hW2]; exact (Below.refl _ _).alloc (Nat.le_refl _) _)
 have HW2:=Lib.hid hW2
 clear hW2
 go_wp2_with fail
 rw [← HW2.out]
 go_loopw [7,8,9] (fun av bv iv wr=>WsR W2 w2.heap.size w2.heap.size av bv iv wr) (fun _ _ iv _=>8-(intOf iv).toNat)
 case atStart=>exact ⟨0,by omega,rfl,fun _=>⟨rfl,rfl⟩,⟨none,0,rfl⟩,⟨none,0,rfl⟩,HG.out,Chg.refl _ _,World.ownsRow_nil _ _ _ _,World.ownsRow_nil _ _ _ _⟩
 case round=>
  obtain ⟨q,hq,rfl,hz,⟨Aa,ca,rfl⟩,⟨Ab,cb,rfl⟩,hg,hch,hoa,hob⟩:=hrel
  by_cases hq8:q<8
  ·have C1:=input_ga hg (by rw [inps_length]; omega)
   rw [inps_succ] at C1
   obtain ⟨lx,hlx⟩:∃ lx,2*(2*q)+2=lx:=⟨_,rfl⟩
   obtain ⟨ly,hly⟩:∃ ly,2*(2*q+1)+2=ly:=⟨_,rfl⟩
   rw [hlx] at C1
   have C1:=Lib.hid C1
   have HZ:=Lib.hid hz
   have HX:=Lib.hid (And.intro hlx hly)
   have HC:=Lib.hid hch
   have HOA:=Lib.hid hoa
   have HOB:=Lib.hid hob
   clear hg hch hoa hob hlx hly hz
   go_wp2_with fail
   refine C1.out.mono ?_
   rintro e w3 ⟨rfl,h1,h2⟩
   have C2:=input_ga h1 (by rw [inps_length]; omega)
   rw [inps_succ,HX.out.2] at C2
   have C2:=Lib.hid C2
   have HC3:=Lib.hid (HC.out.trans h2)
   have HOA3:=Lib.hid (own_gt HOA.out h2)
   have HOB3:=Lib.hid (own_gt HOB.out h2)
   clear h1 h2
   go_wp2_with fail
   refine C2.out.mono ?_
   rintro e w4 ⟨rfl,h1,h2⟩
   have HG4:=Lib.hid h1
   have HC4:=Lib.hid (HC3.out.trans h2)
   have HOA4:=Lib.hid (own_gt HOA3.out h2)
   have HOB4:=Lib.hid (own_gt HOB3.out h2)
   have hs4:W2.heap.size≤w4.heap.size:=HC4.out.size
   clear h1 h2
   go_upto_region 16 with fail
   go_upto_region 17 with (at_builtin; refine wpList_append_sl _ rfl (.tmp 78) (.tmp 80) _ rfl W2.heap.size 29 i0 _ 1 8 Tryz.underlying28 HIN.out.1 HIN.out.2.1 HIN.out.2.2.1 HIN.out.2.2.2 rfl (by omega) _ q _ rfl (HOA4.out.alloc _) (w4.heap.size+1) (some ⟨w4.heap.size,0,none⟩) 1 1 [.int .i64 (lx:Int)] rfl (reads_new rfl (by omega) rfl) (ints_one (by simp)) (le_maxLen (by omega)) (le_bytes (by omega) (by omega)) (by simp; omega) ?_; intro A5 c5 w5 hown5 hg5)
   have hg6:(w4.alloc (.cells #[.int .i64 (lx:Int)] 29)).grownBy w5 (Value.slice Aa q ca).ownBlock:=hg5
   have HG5:=Lib.hid (HG4.out.row (row_chg HOA4.out hg6))
   have HC5:=Lib.hid (gt_grown HC4.out HOA4.out (Nat.le_refl _) hg6)
   have HOA5:=Lib.hid (show w5.ownsRow W2.heap.size 29 1 (.slice A5 (q+1) c5) (q+1) (natVals (ws.la (q+1))) by rw [la_succ,show 4*q+2=lx by have:=HX.out.1; omega,natVals_append]; exact hown5)
   have hne:(Value.slice Ab q cb).ownBlock=none∨(Value.slice Ab q cb).ownBlock≠(Value.slice Aa q ca).ownBlock:=by
    by_cases h0:q=0
    ·rw [(HZ.out h0).2]; exact .inl rfl
    ·exact own_val_ne HOB4.out HOA4.out (l_apart (by omega)).2 (l_apart (by omega)).1 (by simp)
   have HOB5:=Lib.hid ((HOB4.out.alloc (.cells #[.int .i64 (lx:Int)] 29)).kept hg6 hne)
   have hs5:W2.heap.size≤w5.heap.size:=HC5.out.size
   clear hown5 hg5 hg6 hne
   go_wp2_with (at_builtin; refine wpList_append_sl _ rfl (.tmp 82) (.tmp 84) _ rfl W2.heap.size 29 i0 _ 1 8 Tryz.underlying28 HIN.out.1 HIN.out.2.1 HIN.out.2.2.1 HIN.out.2.2.2 rfl (by omega) _ q _ rfl (HOB5.out.alloc _) (w5.heap.size+1) (some ⟨w5.heap.size,0,none⟩) 1 1 [.int .i64 (ly:Int)] rfl (reads_new rfl (by omega) rfl) (ints_one (by simp)) (le_maxLen (by omega)) (le_bytes (by omega) (by omega)) (by simp; omega) ?_; intro A7 c7 w7 hown7 hg7)
   have hg8:(w5.alloc (.cells #[.int .i64 (ly:Int)] 29)).grownBy w7 (Value.slice Ab q cb).ownBlock:=hg7
   have HG7:=Lib.hid (HG5.out.row (row_chg HOB5.out hg8))
   have HC7:=Lib.hid (gt_grown HC5.out HOB5.out (Nat.le_refl _) hg8)
   have HOB7:=Lib.hid (show w7.ownsRow W2.heap.size 29 1 (.slice A7 (q+1) c7) (q+1) (natVals (ws.lb (q+1))) by rw [lb_succ,show 4*q+4=ly by have:=HX.out.2; omega,natVals_append]; exact hown7)
   have hne:(Value.slice A5 (q+1) c5).ownBlock=none∨(Value.slice A5 (q+1) c5).ownBlock≠(Value.slice Ab q cb).ownBlock:=by
    by_cases h0:q=0
    ·rw [(HZ.out h0).2]
     obtain ⟨g,rfl,_,_⟩:=own_some HOA5.out (by omega)
     exact .inr (by simp [Value.ownBlock])
    ·exact own_val_ne HOA5.out HOB5.out (l_apart (by omega)).1 (l_apart (by omega)).2 (by simp)
   have HOA7:=Lib.hid ((HOA5.out.alloc (.cells #[.int .i64 (ly:Int)] 29)).kept hg8 hne)
   clear hown7 hg7 hg8 hne
   go_wp2_with fail
   go_roundw
   case rel=>exact ⟨q+1,by omega,by go_num,fun h=>by omega,⟨_,_,rfl⟩,⟨_,_,rfl⟩,HG7.out,HC7.out,HOA7.out,HOB7.out⟩
   case measure=>simp [intOf]; omega
  ·obtain rfl:q=8:=by omega
   have HGA:=Lib.hid hg
   have HCA:=Lib.hid hch
   have HOA:=Lib.hid hoa
   have HOB:=Lib.hid hob
   have HLV:=Lib.hid (show ∀ w',Chg (GT w2.heap.size) W2 w'→Lvls w' LB∧LB≤w'.heap.size from fun w' hc=>by
    have hs:=HB3.out.size
    have hb:=(HB2.out.trans ((HB3.out.trans (GT.below hc hs)).mono HB2.out.size))
    exact ⟨HL.out.below hb HLB.out,Nat.le_trans HLB.out hb.size⟩)
   have hla:AllHas (inps (2*8)) (ws.la 8):=fun x hx=>by
    obtain ⟨i,hi,rfl⟩:=List.mem_map.1 hx
    have:=List.mem_range.1 hi
    unfold Gm.has; rw [inps_length]; omega
   have hlb:AllHas (inps (2*8)) (ws.lb 8):=fun x hx=>by
    obtain ⟨i,hi,rfl⟩:=List.mem_map.1 hx
    have:=List.mem_range.1 hi
    unfold Gm.has; rw [inps_length]; omega
   have HLA:=Lib.hid (And.intro hla hlb)
   clear hg hch hoa hob hla hlb hz
   have HHA:=Lib.hid (Held.of_own (B:=w2.heap.size) HOA.out)
   have HHB:=Lib.hid (Held.of_own (B:=w2.heap.size) HOB.out)
   have CO:=Lib.hid (of_pm (c0:=ca) (c1:=cb) HOP.out HGA.out (HLV.out _ HCA.out).1 (HLV.out _ HCA.out).2 HHA.out HHB.out HLA.out.1 HLA.out.2 (by rw [inps_length]; omega))
   obtain ⟨W4,hW4⟩:∃ W4,W4=wr.alloc (.cells #[.slice Aa 8 ca,.slice Ab 8 cb] 28):=⟨_,rfl⟩
   have hc4:Chg (GT w2.heap.size) W2 W4:=by rw [hW4]; exact HCA.out.alloc _
   rw [← hW4] at CO
   have HC4:=Lib.hid hc4
   have HH4:=Lib.hid (show Held W4 w2.heap.size Aa 8 (ws.la 8)∧Held W4 w2.heap.size Ab 8 (ws.lb 8) by
    have hb:Below wr.heap.size wr W4:=by rw [hW4]; exact (Below.refl _ _).alloc (Nat.le_refl _) _
    exact ⟨HHA.out.new hb,HHB.out.new hb⟩)
   have HW4:=Lib.hid hW4
   clear hW4 hc4
   go_wp2_with fail
   rw [← HW4.out]
   refine CO.out.mono ?_
   rintro e w5 ⟨A5,c5,gs5,l5,t5,rfl,h1,h2,h3,h4,h5⟩
   have hc5:=HC4.out.trans h2
   have E5:=Lib.hid (show (gs5,l5)=ws.g1 m from h4.eq)
   have HX5:=Lib.hid h4.ext
   have HL5:=Lib.hid (show gs5.length≤1811 by have:=h4.len; rw [inps_length] at this; exact this)
   have CO:=Lib.hid (of_pm (c0:=c5) (c1:=cb) HBACK.out h1 (HLV.out _ hc5).1 (HLV.out _ hc5).2 (Held.of_own (B:=w2.heap.size) h3) (HH4.out.2.gt h2) h4.all (HLA.out.2.ext h4.ext) (by have:=HL5.out; omega))
   obtain ⟨W6,hW6⟩:∃ W6,W6=w5.alloc (.cells #[.slice A5 8 c5,.slice Ab 8 cb] 28):=⟨_,rfl⟩
   have hc6:Chg (GT w2.heap.size) W2 W6:=by rw [hW6]; exact hc5.alloc _
   rw [← hW6] at CO
   have HC6:=Lib.hid hc6
   have HH6:=Lib.hid (show Held W6 w2.heap.size Aa 8 (ws.la 8) by
    have hb:Below w5.heap.size w5 W6:=by rw [hW6]; exact (Below.refl _ _).alloc (Nat.le_refl _) _
    exact (HH4.out.1.gt h2).new hb)
   have HW6:=Lib.hid hW6
   clear hW6 hc6 hc5 h1 h2 h3 h4 h5
   go_wp2_with fail
   rw [← HW6.out]
   refine CO.out.mono ?_
   rintro e w7 ⟨A7,c7,gs7,l7,t7,rfl,h1,h2,h3,h4,h5⟩
   have hc7:=HC6.out.trans h2
   have E7:=Lib.hid (show (gs7,l7)=ws.g2 m k by
    have e:=h4.eq
    unfold ws.g2
    rw [← E5.out]
    exact e)
   have HL7:=Lib.hid (show gs7.length≤3606 by have:=h4.len; have:=HL5.out; have e8:kS=1795:=rfl; omega)
   have hx7:=HX5.out.trans h4.ext
   have hh7:=Held.of_own (B:=w2.heap.size) h3
   have hb8:Below w7.heap.size w7 (w7.alloc (.cells #[.slice Aa 8 ca,.slice A7 8 c7] 28)):=(Below.refl _ _).alloc (Nat.le_refl _) _
   have CO:=Lib.hid (of_ne (c:=2) (n:=8) (h1.new hb8) ((HLV.out _ hc7).1.below hb8 (HLV.out _ hc7).2) (Nat.le_trans (HLV.out _ hc7).2 hb8.size) (HH6.out.gt h2).1 hh7.1 (.inr rfl) (HLA.out.1.ext hx7) h4.all (parts_new (c0:=ca) (c1:=c7) (HH6.out.gt h2) hh7) (by have:=HL7.out; omega))
   obtain ⟨W8,hW8⟩:∃ W8,W8=w7.alloc (.cells #[.slice Aa 8 ca,.slice A7 8 c7] 28):=⟨_,rfl⟩
   have hc8:Chg (GT w2.heap.size) W2 W8:=by rw [hW8]; exact hc7.alloc _
   rw [← hW8] at CO
   have HC8:=Lib.hid hc8
   have HW8:=Lib.hid hW8
   clear hW8 hc8 hc7 h1 h2 h3 h4 h5 hx7 hh7 hb8
   go_wp2_with fail
   rw [← HW8.out]
   refine CO.out.mono ?_
   rintro e w9 ⟨A9,c9,gs9,l9,t9,rfl,h1,h2,h3,h4,h5⟩
   have E9:=Lib.hid (show gs9=(ws.g3 m k).1∧l9=[Gm.notL (ws.g3 m k).2] by
    have e:=h4.eq
    have e3:sameZ gs7 (ws.la 8) l7=ws.g3 m k:=by unfold ws.g3; rw [← E7.out]
    rw [e3] at e
    exact ⟨congrArg Prod.fst e,congrArg Prod.snd e⟩)
   obtain ⟨x9,hx9⟩:∃ x,x=Gm.notL (ws.g3 m k).2:=⟨_,rfl⟩
   have hl9:l9=[x9]:=by rw [hx9]; exact E9.out.2
   subst hl9
   have HL9:=Lib.hid (show gs9.length≤3638 by have:=h4.len; have:=HL7.out; omega)
   have HB9:=Lib.hid (show Below w.heap.size w w9 from HB2.out.trans ((HB3.out.trans (GT.below (HC8.out.trans h2) HB3.out.size)).mono HB2.out.size))
   have CF:=Lib.hid (cof_any (c:=c9) h1 (rs:=[x9]) (Reads.of_own h3) (Nat.le_refl _) h4.all (by simp) (by have:=HL9.out; omega))
   have HX9:=Lib.hid hx9
   clear h1 h2 h3 h4 h5 hx9
   go_wp2_with fail
   refine CF.out.mono ?_
   rintro e w10 ⟨nl,Ac,An,cc,cn,hs,hl,rfl,hb10,hcs,_⟩
   obtain ⟨V,F,s0,s1,an,t1,t2,t3,t4,t5,t6,t7,t8⟩:=ws.tells m k E9.out.1 HX9.out hs hl
   rw [t1,t2]
   rw [t2] at hcs
   obtain ⟨n,hn⟩:∃ n,F.length=n:=⟨_,rfl⟩
   rw [hn] at hcs t4 ⊢
   obtain ⟨nn,hnn⟩:∃ nn,gs9.length+1=nn:=⟨_,rfl⟩
   rw [hnn]
   obtain ⟨W11,hW11⟩:∃ W11,W11=w10.alloc (.cells #[.int .i64 (V:Nat),.slice Ac n cc] 39):=⟨_,rfl⟩
   have hb11:Below w10.heap.size w10 W11:=by rw [hW11]; exact (Below.refl _ _).alloc (Nat.le_refl _) _
   have k11:Blk W11 w10.heap.size 39 #[.int .i64 (V:Nat),.slice Ac n cc]:=by rw [hW11]; exact Blk.new w10 _ _
   obtain ⟨g11,hg11⟩:∃ g,w10.heap.size=g:=⟨_,rfl⟩
   rw [hg11] at k11
   have hb12:=HB9.out.trans ((hb10.trans (hb11.mono hb10.size)).mono HB9.out.size)
   have hes:=HES.out.below hb12
   have hcs1:=hcs.chg hb11
   have CC:=Lib.hid (solve_run (w:=W11) (c:=cc) (effort:=1000000) t6 t7 hes.s (by omega) hn (CsO.of_at hcs1) (fun d hd=>⟨by have:=(t5 d hd).1; omega,(t5 d hd).2⟩) (by omega) (Nat.le_refl _))
   have HB11:=Lib.hid hb12
   have HK11:=Lib.hid k11
   have HCS:=Lib.hid hcs1
   have HRUN:=Lib.hid (And.intro t6 (And.intro t7 (And.intro t5 (And.intro hn (And.intro t3 t4)))))
   have HAN:=Lib.hid t8
   have HW11:=Lib.hid hW11
   have d0:=k11.cell 0
   have d1:=k11.cell 1
   clear hb11 k11 hb12 hes hcs1 hcs hb10 hs hl t1 t2 t3 t4 t5 t6 t7 t8 hn hnn hW11
   go_upto_region 28 with fail
   rw [← HW11.out]
   clear hg11
   go_wp2_with fail
   refine CC.out.mono ?_
   rintro e w12 ⟨v,rfl,hb13,hv⟩
   have HB12:=Lib.hid (HB11.out.trans (hb13.mono HB11.out.size))
   have HK12:=Lib.hid (HK11.out.below hb13 HK11.out.lt)
   have HC12:=Lib.hid (HCS.out.chg hb13)
   clear hb13 d0 d1 CC
   have hop:=HOP.out
   have hback:=HBACK.out
   have han:=HAN.out
   unfold Sgn at hop hback
   by_cases hmk:m=k
   ·rw [if_pos hmk] at han
    obtain ⟨l,rfl⟩:=han
    obtain ⟨Av,cv,rfl,_⟩:=hv
    obtain ⟨W14,hW14⟩:∃ W14,W14=w12.alloc (.cells #[.string ⟨#[121,101,115]⟩,.slice Av V cv,.slice none 0 0] 45):=⟨_,rfl⟩
    have hb14:Below w12.heap.size w12 W14:=by rw [hW14]; exact (Below.refl _ _).alloc (Nat.le_refl _) _
    have k14:Blk W14 w12.heap.size 45 #[.string ⟨#[121,101,115]⟩,.slice Av V cv,.slice none 0 0]:=by rw [hW14]; exact Blk.new w12 _ _
    have HB14:=Lib.hid (HB12.out.trans (hb14.mono HB12.out.size))
    have x0:=k14.cell 0
    have HW14:=Lib.hid hW14
    clear hb14 k14 hW14
    go_upto_region 31 with fail
    rw [← HW14.out]
    subst hmk
    cases m with
    | false=>
     obtain rfl:op=⟨#[43]⟩:=hop
     obtain rfl:back=⟨#[43]⟩:=hback
     go_wp2_with fail
     go_ret
     exact ⟨rfl,HB14.out⟩
    | true=>
     obtain rfl:op=⟨#[45]⟩:=hop
     obtain rfl:back=⟨#[45]⟩:=hback
     go_wp2_with fail
     go_ret
     exact ⟨rfl,HB14.out⟩
   ·rw [if_neg hmk] at han
    obtain ⟨pf,rfl⟩:=han
    obtain ⟨pv,tag,rfl,hpr⟩:=hv
    have hform:∃ A2 c2,pv = .slice A2 pf.length c2:=by
     obtain ⟨rows,q1,q2,_⟩:=hpr
     obtain ⟨A2,c2,e⟩:=q1.form
     exact ⟨A2,c2,by rw [e,q2]⟩
    obtain ⟨A2,c2,rfl⟩:=hform
    obtain ⟨n2,hn2⟩:∃ n2,pf.length=n2:=⟨_,rfl⟩
    rw [hn2] at hpr ⊢
    obtain ⟨W14,hW14⟩:∃ W14,W14=w12.alloc (.cells #[.string ⟨#[110,111]⟩,.slice none 0 0,.slice A2 n2 c2] 45):=⟨_,rfl⟩
    have hb14:Below w12.heap.size w12 W14:=by rw [hW14]; exact (Below.refl _ _).alloc (Nat.le_refl _) _
    have k14:Blk W14 w12.heap.size 45 #[.string ⟨#[110,111]⟩,.slice none 0 0,.slice A2 n2 c2]:=by rw [hW14]; exact Blk.new w12 _ _
    have HB14:=Lib.hid (HB12.out.trans (hb14.mono HB12.out.size))
    have k15:=HK12.out.below hb14 HK12.out.lt
    obtain ⟨r1,r2,r3,r4,r5,r6⟩:=HRUN.out
    have CK:=Lib.hid (check_no (w:=W14) (c:=cc) (c2:=c2) (HES.out.below HB14.out) (by omega) (HC12.out.chg hb14) r4 (by omega) (fun d hd=>⟨by have:=(r3 d hd).1; omega,(r3 d hd).2⟩) r1 (Nat.le_refl _) r2 (hpr.new hb14) hn2)
    have d0:=k15.cell 0
    have d1:=k15.cell 1
    have x0:=k14.cell 0
    have x1:=k14.cell 1
    have x2:=k14.cell 2
    have HW14:=Lib.hid hW14
    clear hb14 k14 k15 r1 r2 r3 r4 r5 r6 hW14 hpr hn2
    go_upto_region 31 with fail
    rw [← HW14.out]
    cases m with
    | false=>
     cases k with
     | false=>exact absurd rfl hmk
     | true=>
      obtain rfl:op=⟨#[43]⟩:=hop
      obtain rfl:back=⟨#[45]⟩:=hback
      go_wp2_with fail
      refine CK.out.mono ?_
      rintro e w16 ⟨rfl,hb16⟩
      have HB16:=Lib.hid (HB14.out.trans (hb16.mono HB14.out.size))
      clear hb16 d0 d1 x0 x1 x2 CK
      go_wp2_with fail
      go_ret
      exact ⟨rfl,HB16.out⟩
    | true=>
     cases k with
     | true=>exact absurd rfl hmk
     | false=>
      obtain rfl:op=⟨#[45]⟩:=hop
      obtain rfl:back=⟨#[43]⟩:=hback
      go_wp2_with fail
      refine CK.out.mono ?_
      rintro e w16 ⟨rfl,hb16⟩
      have HB16:=Lib.hid (HB14.out.trans (hb16.mono HB14.out.size))
      clear hb16 d0 d1 x0 x1 x2 CK
      go_wp2_with fail
      go_ret
      exact ⟨rfl,HB16.out⟩
theorem bytes_ne {s x:ByteArray} {l:List UInt8} (hx:x.toList=l) (h:s≠x):(s.toList == l)=false:=by
 rw [← hx]; exact (Lib.bytes_beq_false_iff s x).2 h
theorem t43:(⟨#[43]⟩:ByteArray).toList=[43]:=by decide +kernel
theorem t45:(⟨#[45]⟩:ByteArray).toList=[45]:=by decide +kernel
theorem tx:(⟨#[120,111,114]⟩:ByteArray).toList=[120,111,114]:=by decide +kernel
set_option maxRecDepth 100000 in
set_option maxHeartbeats 4000000 in
theorem sums_out {w:World} {ea:Nat→Addr} (hes:Sen3 w ea) {op back:ByteArray} (h:(op≠⟨#[43]⟩∧op≠⟨#[45]⟩)∨((op=⟨#[43]⟩∨op=⟨#[45]⟩)∧back≠⟨#[43]⟩∧back≠⟨#[45]⟩)) :
  Calls Tryz.prog 3 #[.string op,.string back] w (slv.HoP w):=by
 have HES:=Lib.hid hes
 have C5:=Lib.hid (five_any w)
 clear hes
 obtain ⟨p1,e1⟩:∃ p,(op.toList == [43])=p:=⟨_,rfl⟩
 obtain ⟨p2,e2⟩:∃ p,(op.toList == [45])=p:=⟨_,rfl⟩
 obtain ⟨p3,e3⟩:∃ p,(op.toList == [120,111,114])=p:=⟨_,rfl⟩
 obtain ⟨p4,e4⟩:∃ p,(back.toList == [43])=p:=⟨_,rfl⟩
 obtain ⟨p5,e5⟩:∃ p,(back.toList == [45])=p:=⟨_,rfl⟩
 have key:(p1=false∧p2=false∧p3=false)∨(p1=false∧p2=false∧p3=true)∨(p1=true∧p3=false∧p4=false∧p5=false)∨(p1=false∧p2=true∧p3=false∧p4=false∧p5=false):=by
  rcases h with ⟨h1,h2⟩ | ⟨rfl | rfl,h2,h3⟩
  ·cases p3 with
   | true=>exact .inr (.inl ⟨e1.symm.trans (bytes_ne t43 h1),e2.symm.trans (bytes_ne t45 h2),rfl⟩)
   | false=>exact .inl ⟨e1.symm.trans (bytes_ne t43 h1),e2.symm.trans (bytes_ne t45 h2),rfl⟩
  ·exact .inr (.inr (.inl ⟨by rw [← e1,t43]; rfl,by rw [← e3,t43]; rfl,e4.symm.trans (bytes_ne t43 h2),e5.symm.trans (bytes_ne t45 h3)⟩))
  ·exact .inr (.inr (.inr ⟨by rw [← e1,t45]; rfl,by rw [← e2,t45]; rfl,by rw [← e3,t45]; rfl,e4.symm.trans (bytes_ne t43 h2),e5.symm.trans (bytes_ne t45 h3)⟩))
 clear h
 rcases key with ⟨rfl,rfl,rfl⟩ | ⟨rfl,rfl,rfl⟩ | ⟨rfl,rfl,rfl,rfl⟩ | ⟨rfl,rfl,rfl,rfl,rfl⟩
 all_goals
  go_enter Tryz.func3,Tryz.ntmps3
  go_wp2_with fail
  refine C5.out.mono ?_
  rintro e w1 ⟨rfl,hb1⟩
  have HB1:=Lib.hid hb1
  have CH:=Lib.hid (slv.holds_true (HES.out.below hb1).s)
  clear hb1
  go_wp2_with fail
  refine CH.out.mono ?_
  rintro e w2 ⟨rfl,hb2⟩
  have HB2:=Lib.hid (HB1.out.trans (hb2.mono HB1.out.size))
  clear hb2
  go_wp2_with fail
  go_ret
  exact ⟨rfl,HB2.out⟩
theorem sums_any {w:World} {LB:Nat} {ea:Nat→Addr} (hes:Sen3 w ea) (hL:Lvls w LB) (hLB:LB≤w.heap.size) (op back:ByteArray) :
  Calls Tryz.prog 3 #[.string op,.string back] w (slv.HoP w):=by
 by_cases h1:op=⟨#[43]⟩
 ·by_cases h3:back=⟨#[43]⟩
  ·exact sums_in hes hL hLB (m:=false) (k:=false) h1 h3
  ·by_cases h4:back=⟨#[45]⟩
   ·exact sums_in hes hL hLB (m:=false) (k:=true) h1 h4
   ·exact sums_out hes (.inr ⟨.inl h1,h3,h4⟩)
 ·by_cases h2:op=⟨#[45]⟩
  ·by_cases h3:back=⟨#[43]⟩
   ·exact sums_in hes hL hLB (m:=true) (k:=false) h2 h3
   ·by_cases h4:back=⟨#[45]⟩
    ·exact sums_in hes hL hLB (m:=true) (k:=true) h2 h4
    ·exact sums_out hes (.inr ⟨.inr h2,h3,h4⟩)
  ·exact sums_out hes (.inl ⟨h1,h2⟩)
end Go.Proofs.YthkhfbofhdfdoaaGreatDoor
