/- Plain laws and walks for the law WordSums; no condition. -/
import Derived.Test.YthkhfbofhdfdoaaGreatDoorGr
import Derived.Test.YthkhfbofhdfdoaaGreatDoorGm
import Derived.Test.YthkhfbofhdfdoaaGreatDoorBa
namespace Go.Proofs.YthkhfbofhdfdoaaGreatDoor
open Go.RowKit
def RP (w:World) (B b:Nat) (r:List Gm.Gate×Nat) (e:Ending) (w':World):Prop:=
 e = .returned (.int .i64 (r.2:Nat))∧GA w' B b r.1∧Chg (GT B) w w'
theorem must_nil (x:Int) (w:World):Calls Tryz.prog 59 #[.int .i64 x,.nilIface] w fun e w'=>e = .returned (.int .i64 x)∧w=w':=by
 go_enter Tryz.func59,Tryz.ntmps59
 go_wp2
 go_ret
 exact ⟨rfl,rfl⟩
set_option maxHeartbeats 400000 in
theorem mkr_and {w:World} {B b:Nat} {gs:List Gm.Gate} (h:GA w B b gs) (hn:gs.length<99999) {x y:Nat} (hx:Gm.has gs x) (hy:Gm.has gs y) :
  Calls Tryz.prog 36 #[.agg #[.pointer (some ⟨b,0,none⟩)],.int .i64 x,.int .i64 y] w (RP w B b (Gm.andG gs x y)):=by
 obtain ⟨W1,hW1⟩:∃ W1,W1=w.alloc (.cells #[.pointer (some ⟨b,0,none⟩)] 60):=⟨_,rfl⟩
 have hb:Below w.heap.size w W1:=by rw [hW1]; exact (Below.refl _ _).alloc (Nat.le_refl _) _
 have hc:Chg (GT B) w W1:=by rw [hW1]; exact (Chg.refl _ _).alloc _
 have C1:=Lib.hid (and_ga (h.new hb) hn hx hy)
 have HC:=Lib.hid hc
 have HW:=Lib.hid hW1
 clear h hb hc hW1 hn hx hy
 go_enter Tryz.func36,Tryz.ntmps36
 go_wp2_with fail
 rw [← HW.out]
 refine C1.out.mono ?_
 rintro e w1 ⟨rfl,h1,h2⟩
 have H1:=Lib.hid h1
 have H2:=Lib.hid (HC.out.trans h2)
 clear h1 h2
 go_wp2_with fail
 refine (must_nil _ _).mono ?_
 rintro e w' ⟨rfl,rfl⟩
 go_wp2
 go_ret
 exact ⟨rfl,H1.out,H2.out⟩
set_option maxHeartbeats 400000 in
theorem mkr_or {w:World} {B b:Nat} {gs:List Gm.Gate} (h:GA w B b gs) (hn:gs.length<99999) {x y:Nat} (hx:Gm.has gs x) (hy:Gm.has gs y) :
  Calls Tryz.prog 38 #[.agg #[.pointer (some ⟨b,0,none⟩)],.int .i64 x,.int .i64 y] w (RP w B b (Gm.orG gs x y)):=by
 obtain ⟨W1,hW1⟩:∃ W1,W1=w.alloc (.cells #[.pointer (some ⟨b,0,none⟩)] 60):=⟨_,rfl⟩
 have hb:Below w.heap.size w W1:=by rw [hW1]; exact (Below.refl _ _).alloc (Nat.le_refl _) _
 have hc:Chg (GT B) w W1:=by rw [hW1]; exact (Chg.refl _ _).alloc _
 have C1:=Lib.hid (or_ga (h.new hb) hn hx hy)
 have HC:=Lib.hid hc
 have HW:=Lib.hid hW1
 clear h hb hc hW1 hn hx hy
 go_enter Tryz.func38,Tryz.ntmps38
 go_wp2_with fail
 rw [← HW.out]
 refine C1.out.mono ?_
 rintro e w1 ⟨rfl,h1,h2⟩
 have H1:=Lib.hid h1
 have H2:=Lib.hid (HC.out.trans h2)
 clear h1 h2
 go_wp2_with fail
 refine (must_nil _ _).mono ?_
 rintro e w' ⟨rfl,rfl⟩
 go_wp2
 go_ret
 exact ⟨rfl,H1.out,H2.out⟩
set_option maxHeartbeats 400000 in
theorem mkr_xor {w:World} {B b:Nat} {gs:List Gm.Gate} (h:GA w B b gs) (hn:gs.length<99997) {x y:Nat} (hx:Gm.has gs x) (hy:Gm.has gs y) :
  Calls Tryz.prog 37 #[.agg #[.pointer (some ⟨b,0,none⟩)],.int .i64 x,.int .i64 y] w (RP w B b (Gm.xorG gs x y)):=by
 obtain ⟨W1,hW1⟩:∃ W1,W1=w.alloc (.cells #[.pointer (some ⟨b,0,none⟩)] 60):=⟨_,rfl⟩
 have hb:Below w.heap.size w W1:=by rw [hW1]; exact (Below.refl _ _).alloc (Nat.le_refl _) _
 have hc:Chg (GT B) w W1:=by rw [hW1]; exact (Chg.refl _ _).alloc _
 have C1:=Lib.hid (xor_ga (h.new hb) hn hx hy)
 have HC:=Lib.hid hc
 have HW:=Lib.hid hW1
 clear h hb hc hW1 hn hx hy
 go_enter Tryz.func37,Tryz.ntmps37
 go_wp2_with fail
 rw [← HW.out]
 refine C1.out.mono ?_
 rintro e w1 ⟨rfl,h1,h2⟩
 have H1:=Lib.hid h1
 have H2:=Lib.hid (HC.out.trans h2)
 clear h1 h2
 go_wp2_with fail
 refine (must_nil _ _).mono ?_
 rintro e w' ⟨rfl,rfl⟩
 go_wp2
 go_ret
 exact ⟨rfl,H1.out,H2.out⟩
end Go.Proofs.YthkhfbofhdfdoaaGreatDoor
namespace Go.Proofs.YthkhfbofhdfdoaaGreatDoor
open Go.RowKit
def Held (w:World) (B:Nat) (A:Option Addr) (n:Nat) (xs:List Nat):Prop:=
 xs.length=n∧(0<n→∃ ad o,A=some ad∧w.heap[ad.block]? = some o∧(ad.block<B∨elemOf o=some 29)∧∀ (j x:Nat),xs[j]? = some x→w.cell? (ad.add j)=some (.int .i64 (x:Int)))
section
variable {w w':World} {B n:Nat} {A:Option Addr} {xs:List Nat}
theorem Held.chg {S:Nat→Obj→Prop} (h:Held w B A n xs) (hc:Chg S w w') (hS:∀ k o,S k o→B≤k∧elemOf o≠some 29):Held w' B A n xs:=by
 refine ⟨h.1,fun hn=>?_⟩
 obtain ⟨ad,o,rfl,ho,hb,hcell⟩:=h.2 hn
 have hk:=hc.keep _ _ ho fun hs=>by
  obtain ⟨h1,h2⟩:=hS _ _ hs
  rcases hb with hb | hb
  ·omega
  ·exact h2 hb
 exact ⟨ad,o,rfl,hk,hb,fun j x hx=>(World.cell?_of_block (a:=ad.add j) (by rw [block_of_add]; exact hk.trans ho.symm)).trans (hcell j x hx)⟩
theorem Held.gt (h:Held w B A n xs) (hc:Chg (GT B) w w'):Held w' B A n xs:=
 h.chg hc fun k o hs=>⟨hs.1,by rcases hs.2 with e | e | e <;> rw [e] <;> simp⟩
theorem Held.new (h:Held w B A n xs) (hb:Below w.heap.size w w'):Held w' B A n xs:=h.chg (S:=fun _ _=>False) (.of_new hb) (by simp)
theorem Held.drewN (h:Held w B A n xs) (k:Nat):Held (w.drewN k) B A n xs:=h
theorem Held.of_own {base c:Nat} (h:w.ownsRow base 29 1 (.slice A n c) n (natVals xs)):Held w B A n xs:=by
 have hl:xs.length=n:=by have:=h.1; rw [natVals_length] at this; omega
 refine ⟨hl,fun hn=>?_⟩
 obtain ⟨g,cap,hv,_,_⟩:=h.form hn
 have hA:A=some ⟨g,0,none⟩:=by injection hv
 subst hA
 have hc:=h.cells (g:=g) rfl
 rcases h.2 with ⟨h0,_⟩ | ⟨g',cap',cur,hv',_,hh,_⟩
 ·cases h0
 ·have hg:g=g':=by simp only [Value.slice.injEq,Option.some.injEq,Addr.mk.injEq,and_true] at hv'; exact hv'.1
  subst hg
  exact ⟨_,_,rfl,hh,.inr rfl,fun j x hx=>hc j _ (natVals_at hx)⟩
end
def WPost (w:World) (n:Nat) (ys:List Nat) (e:Ending) (w':World):Prop:=
 ∃ A c,e = .returned (.slice A n c)∧w'.ownsRow w.heap.size 29 1 (.slice A n c) n (natVals ys)∧Below w.heap.size w w'
def TuR (W:World) (xs:List Nat) (ov iv:Value) (wr:World):Prop:=
 ∃ k:Nat,k≤xs.length∧iv = .int .i64 k∧(∃ A c,ov = .slice A k c)∧wr.ownsRow W.heap.size 29 1 ov k (natVals ((xs.take k).map Gm.notL))∧Below W.heap.size W wr
set_option maxHeartbeats 1000000 in
theorem turned_any {w:World} {B n:Nat} {A:Option Addr} {xs:List Nat} {c:Nat} (h:Held w B A n xs) (hs:∀ x∈xs,x≤1000000) (hn:n≤1000) :
  Calls Tryz.prog 16 #[.slice A n c] w (WPost w n (xs.map Gm.notL)):=by
 obtain ⟨i0,hi0,hz0,hz1,hz2⟩:=info_parts infoLit_
 have HIN:=Lib.hid (show _∧_∧_∧_ from ⟨hi0,hz0,hz1,hz2⟩)
 obtain rfl:=h.1
 have HH:=Lib.hid h
 have HS:=Lib.hid hs
 clear h hs hi0 hz0 hz1 hz2
 go_enter Tryz.func16,Tryz.ntmps16
 go_wp2_with fail
 go_loopw [3,8] (fun ov iv wr=>TuR w xs ov iv wr) (fun _ iv _=>xs.length-(intOf iv).toNat)
 case atStart=>exact ⟨0,Nat.zero_le _,rfl,⟨none,0,rfl⟩,World.ownsRow_nil _ _ _ _,Below.refl _ _⟩
 case round=>
  obtain ⟨k,hk,rfl,⟨Ao,co,rfl⟩,hown,hb⟩:=hrel
  have HO:=Lib.hid hown
  have HB:=Lib.hid hb
  have hsz:=hb.size
  clear hown hb
  by_cases hkl:k<xs.length
  ·obtain ⟨x,hx⟩:∃ x,xs[k]? = some x:=⟨_,List.getElem?_eq_getElem hkl⟩
   obtain ⟨ad,o,hA,ho,_,hcell⟩:=HH.out.2 (by omega)
   subst hA
   have hlt:=lt_of_heap ho
   have cx:=(HB.out.cell (p:=ad.add k) (by rw [block_of_add]; exact hlt)).trans (hcell k x hx)
   have CN:=Lib.hid (not_any x wr (HS.out x (List.mem_of_getElem? hx)))
   have HX:=Lib.hid hx
   clear hcell ho hx hlt
   go_wp2_with fail
   refine CN.out.mono ?_
   rintro e w' ⟨rfl,rfl⟩
   go_wp2_with (at_builtin; refine wpList_append_sl _ rfl (.tmp 12) (.tmp 15) _ rfl w.heap.size 29 i0 _ 1 8 Tryz.underlying28 HIN.out.1 HIN.out.2.1 HIN.out.2.2.1 HIN.out.2.2.2 rfl (by omega) _ k _ rfl (HO.out.alloc _) (wr.heap.size+1) (some ⟨wr.heap.size,0,none⟩) 1 1 [.int .i64 (Gm.notL x:Nat)] rfl (reads_new rfl (by omega) rfl) (ints_one (by simp)) (le_maxLen (by omega)) (le_bytes (by omega) (by omega)) (by simp; omega) ?_; intro A1 c1 w5 hown1 hg1)
   have hg2:(wr.alloc (.cells #[.int .i64 (Gm.notL x:Nat)] 29)).grownBy w5 (Value.slice Ao k co).ownBlock:=hg1
   have HB5:=Lib.hid (own_grown_below HB.out HO.out (Nat.le_refl _) hg2)
   have ho5:w5.ownsRow w.heap.size 29 1 (.slice A1 (k+1) c1) (k+1) (natVals ((xs.take (k+1)).map Gm.notL)):=by
    rw [Gm.take_one HX.out,List.map_append,natVals_append]; exact hown1
   have HO5:=Lib.hid ho5
   clear hown1 hg1 hg2 ho5
   go_wp2_with fail
   go_roundw
   case rel=>exact ⟨k+1,by omega,by go_num,⟨_,_,rfl⟩,HO5.out,HB5.out⟩
   case measure=>simp [intOf]; omega
  ·obtain rfl:k=xs.length:=by omega
   have ho:=HO.out
   rw [List.take_length] at ho
   have HO4:=Lib.hid ho
   clear ho
   go_wp2
   go_ret
   exact ⟨Ao,co,rfl,HO4.out,HB.out⟩
end Go.Proofs.YthkhfbofhdfdoaaGreatDoor
namespace Go.Proofs.YthkhfbofhdfdoaaGreatDoor
open Go.RowKit
def AllHas (gs:List Gm.Gate) (l:List Nat):Prop:=∀ x∈l,Gm.has gs x
theorem AllHas.ext {gs gs':List Gm.Gate} {l:List Nat} (h:AllHas gs l) (he:Gm.Ext gs gs'):AllHas gs' l:=fun x hx=>he.has (h x hx)
theorem box_gt {w w':World} {B g:Nat} {cs:Array Value} (h:Blk w g 60 cs) (hc:Chg (GT B) w w'):Blk w' g 60 cs:=
 h.chg hc fun hs=>by rcases hs.2 with e | e | e <;> simp [elemOf] at e
structure SumOf (gs gs':List Gm.Gate) (xs ys outs:List Nat) (c last:Nat):Prop where
 ext:Gm.Ext gs gs'
 outs_:AllHas gs' outs
 last_:Gm.has gs' last
 len:gs'.length≤gs.length+9*xs.length
 eq:(gs',outs,last)=sumZ gs xs ys c
def SPost (w:World) (B b:Nat) (gs:List Gm.Gate) (xs ys:List Nat) (c:Nat) (e:Ending) (w':World):Prop:=
 ∃ A k gs' outs last,e = .returned (.tuple #[.slice A xs.length k,.int .i64 (last:Nat)])∧GA w' B b gs'∧Chg (GT B) w w'∧w'.ownsRow w.heap.size 29 1 (.slice A xs.length k) xs.length (natVals outs)∧SumOf gs gs' xs ys outs c last
def SRel (W:World) (B b:Nat) (gs:List Gm.Gate) (xs ys:List Nat) (c:Nat) (cv ov iv:Value) (wr:World):Prop:=
 ∃ k gs' outs last,k≤xs.length∧iv = .int .i64 (k:Nat)∧cv = .int .i64 (last:Nat)∧(∃ A cp,ov = .slice A k cp)∧GA wr B b gs'∧Chg (GT B) W wr∧wr.ownsRow W.heap.size 29 1 ov k (natVals outs) ∧
  Blk wr W.heap.size 60 #[.pointer (some ⟨b,0,none⟩)]∧SumOf gs gs' (xs.take k) (ys.take k) outs c last
theorem sumOf_start (gs:List Gm.Gate) {c:Nat} (hc:Gm.has gs c):SumOf gs gs [] [] [] c c:=
 ⟨.refl _,(fun x hx=>by cases hx),hc,by simp,rfl⟩
structure SumStep (gs gs1:List Gm.Gate) (xs ys outs:List Nat) (c last k x y:Nat) (r1 r2 r3 r4 r5:List Gm.Gate×Nat):Prop where
 hx:Gm.has gs1 x
 hy:Gm.has gs1 y
 h1:Gm.has r1.1 r1.2
 h1l:Gm.has r1.1 last
 h2x:Gm.has r2.1 x
 h2y:Gm.has r2.1 y
 h31:Gm.has r3.1 r1.2
 h3l:Gm.has r3.1 last
 h43:Gm.has r4.1 r3.2
 h4:Gm.has r4.1 r4.2
 l1:r1.1.length≤gs1.length+3
 l2:r2.1.length≤gs1.length+6
 l3:r3.1.length≤gs1.length+7
 l4:r4.1.length≤gs1.length+8
 next:SumOf gs r5.1 (xs.take (k+1)) (ys.take (k+1)) (outs++[r2.2]) c r5.2
theorem sum_step {gs gs1:List Gm.Gate} {xs ys outs:List Nat} {c last k x y:Nat} (hw:Gm.Wf gs1) (hs:SumOf gs gs1 (xs.take k) (ys.take k) outs c last) (gx:AllHas gs xs) (gy:AllHas gs ys) (_hc:Gm.has gs c) (hx:xs[k]? = some x) (hy:ys[k]? = some y)
  {r1 r2 r3 r4 r5:List Gm.Gate×Nat} (e1:r1=Gm.xorG gs1 x y) (e2:r2=Gm.xorG r1.1 r1.2 last) (e3:r3=Gm.andG r2.1 x y) (e4:r4=Gm.andG r3.1 r1.2 last) (e5:r5=Gm.orG r4.1 r3.2 r4.2):SumStep gs gs1 xs ys outs c last k x y r1 r2 r3 r4 r5:=by
 have kx:=(List.getElem?_eq_some_iff.1 hx).1
 have ky:=(List.getElem?_eq_some_iff.1 hy).1
 have hx0:=gx x (List.mem_of_getElem? hx)
 have hy0:=gy y (List.mem_of_getElem? hy)
 have hx1:=hs.ext.has hx0
 have hy1:=hs.ext.has hy0
 have w1:=fun inp=>Gm.comes_xor (inp:=inp) hw hx1 hy1
 rw [← e1] at w1
 have hl1:=(w1 []).ext.has hs.last_
 have w2:=fun inp=>Gm.comes_xor (inp:=inp) (w1 []).wf (w1 []).has hl1
 rw [← e2] at w2
 have x12:=(w1 []).ext.trans (w2 []).ext
 have w3:=fun inp=>Gm.comes_and (inp:=inp) (w2 []).wf (x12.has hx1) (x12.has hy1)
 rw [← e3] at w3
 have x13:=(w2 []).ext.trans (w3 []).ext
 have w4:=fun inp=>Gm.comes_and (inp:=inp) (w3 []).wf (x13.has (w1 []).has) (x13.has hl1)
 rw [← e4] at w4
 have w5:=fun inp=>Gm.comes_or (inp:=inp) (w4 []).wf ((w4 []).ext.has (w3 []).has) (w4 []).has
 rw [← e5] at w5
 have x25:Gm.Ext r2.1 r5.1:=((w3 []).ext.trans (w4 []).ext).trans (w5 []).ext
 have x15:Gm.Ext gs1 r5.1:=x12.trans x25
 have l1:r1.1.length≤gs1.length+3:=by rw [e1]; exact Gm.orOf_len ..
 have l2:r2.1.length≤r1.1.length+3:=by rw [e2]; exact Gm.orOf_len ..
 have l3:r3.1.length≤r2.1.length+1:=by rw [e3]; exact Gm.andG_len ..
 have l4:r4.1.length≤r3.1.length+1:=by rw [e4]; exact Gm.andG_len ..
 have l5:r5.1.length≤r4.1.length+1:=by rw [e5]; exact Gm.orG_len ..
 have hlen:=hs.len
 refine ⟨hx1,hy1,(w1 []).has,hl1,x12.has hx1,x12.has hy1,x13.has (w1 []).has,x13.has hl1,(w4 []).ext.has (w3 []).has,(w4 []).has,l1,by omega,by omega,by omega,?_⟩
 refine ⟨hs.ext.trans x15,fun z hz=>?_,(w5 []).has,?_,?_⟩
 ·rcases List.mem_append.1 hz with hz | hz
  ·exact x15.has (hs.outs_ z hz)
  ·rw [List.mem_singleton.1 hz]; exact x25.has (w2 []).has
 ·rw [List.length_take] at hlen ⊢
  omega
 ·have q:=hs.eq
  have hll:(xs.take k).length=(ys.take k).length:=by rw [List.length_take,List.length_take]; omega
  unfold sumZ at q ⊢
  rw [Gm.take_one hx,Gm.take_one hy,List.zip_append hll,List.foldl_append,← q,e5,e4,e3,e2,e1]
  rfl
attribute [local irreducible] wpStill wpSeq
set_option maxRecDepth 100000 in
set_option maxHeartbeats 2000000 in
theorem sum_any {w:World} {B b:Nat} {gs:List Gm.Gate} (h:GA w B b gs) {A A2:Option Addr} {c1 c2:Nat} {xs ys:List Nat} (hx:Held w B A xs.length xs) (hy:Held w B A2 xs.length ys) (gx:AllHas gs xs) (gy:AllHas gs ys) {c:Nat} (hc:Gm.has gs c)
  (hn:gs.length+9*xs.length≤99000) (hl:xs.length≤1000) :
  Calls Tryz.prog 33 #[.agg #[.pointer (some ⟨b,0,none⟩)],.slice A xs.length c1,.slice A2 xs.length c2,.int .i64 (c:Nat)] w (SPost w B b gs xs ys c):=by
 obtain ⟨i0,hi0,hz0,hz1,hz2⟩:=info_parts infoLit_
 have HIN:=Lib.hid (show _∧_∧_∧_ from ⟨hi0,hz0,hz1,hz2⟩)
 have HG:=Lib.hid h
 have HX:=Lib.hid hx
 have HY:=Lib.hid hy
 have GX:=Lib.hid gx
 have GY:=Lib.hid gy
 have HC:=Lib.hid hc
 have HN:=Lib.hid hn
 clear h hx hy gx gy hc hn hi0 hz0 hz1 hz2
 go_enter Tryz.func33,Tryz.ntmps33
 go_wp2_with fail
 go_loopw [3,8,14] (fun cv ov iv wr=>SRel w B b gs xs ys c cv ov iv wr) (fun _ _ iv _=>xs.length-(intOf iv).toNat)
 case atStart=>
  refine ⟨0,gs,[],c,Nat.zero_le _,rfl,rfl,⟨none,0,rfl⟩,HG.out.new ((Below.refl _ _).alloc (Nat.le_refl _) _),(Chg.refl _ _).alloc _,World.ownsRow_nil _ _ _ _,Blk.new w _ _,?_⟩
  simpa using sumOf_start gs HC.out
 case round=>
  obtain ⟨k,gs1,outs,last,hk,rfl,rfl,⟨Ao,co,rfl⟩,hg,hch,hown,hbox,hso⟩:=hrel
  have HG1:=Lib.hid hg
  have HCH:=Lib.hid hch
  have HO:=Lib.hid hown
  have HBX:=Lib.hid hbox
  have HSO:=Lib.hid hso
  by_cases hkl:k<xs.length
  ·obtain ⟨x,hxk⟩:∃ x,xs[k]? = some x:=⟨_,List.getElem?_eq_getElem hkl⟩
   obtain ⟨y,hyk⟩:∃ y,ys[k]? = some y:=⟨_,List.getElem?_eq_getElem (by have:=HY.out.1; omega)⟩
   obtain ⟨ad,o,hA,_,_,hcell⟩:=(HX.out.gt hch).2 (by omega)
   subst hA
   obtain ⟨ad2,o2,hA2,_,_,hcell2⟩:=(HY.out.gt hch).2 (by omega)
   subst hA2
   have cx:=hcell k x hxk
   have cy:=hcell2 k y hyk
   have cb:wr.cell? ⟨w.heap.size,0,none⟩=some (.pointer (some ⟨b,0,none⟩)):=hbox.cell 0
   have hl1:gs1.length≤gs.length+9*k:=by have:=hso.len; rw [List.length_take,Nat.min_eq_left hk] at this; exact this
   obtain ⟨r1,e1⟩:∃ r,r=Gm.xorG gs1 x y:=⟨_,rfl⟩
   obtain ⟨r2,e2⟩:∃ r,r=Gm.xorG r1.1 r1.2 last:=⟨_,rfl⟩
   obtain ⟨r3,e3⟩:∃ r,r=Gm.andG r2.1 x y:=⟨_,rfl⟩
   obtain ⟨r4,e4⟩:∃ r,r=Gm.andG r3.1 r1.2 last:=⟨_,rfl⟩
   obtain ⟨r5,e5⟩:∃ r,r=Gm.orG r4.1 r3.2 r4.2:=⟨_,rfl⟩
   have HST:=Lib.hid (sum_step hg.wf hso GX.out GY.out HC.out hxk hyk e1 e2 e3 e4 e5)
   obtain ⟨W2,hW2⟩:∃ W2,W2=wr.drew:=⟨_,rfl⟩
   have HG2:=Lib.hid (show GA W2 B b gs1 by rw [hW2]; exact hg.drewN 1)
   have HCH2:=Lib.hid (show Chg (GT B) w W2 by rw [hW2]; exact hch.drew)
   have HO2:=Lib.hid (show W2.ownsRow w.heap.size 29 1 (.slice Ao k co) k (natVals outs) by rw [hW2]; exact hown)
   have HBX2:=Lib.hid (show Blk W2 w.heap.size 60 #[.pointer (some ⟨b,0,none⟩)] by rw [hW2]; exact hbox)
   have HW2:=Lib.hid hW2
   have E1:=Lib.hid e1
   have E2:=Lib.hid e2
   have E3:=Lib.hid e3
   have E4:=Lib.hid e4
   have E5:=Lib.hid e5
   have HL1:=Lib.hid hl1
   have HXK:=Lib.hid hxk
   have HYK:=Lib.hid hyk
   have hsw:w.heap.size≤wr.heap.size:=hch.size
   have C1:=mkr_xor HG2.out (by have:=HN.out; omega) HST.out.hx HST.out.hy
   rw [← e1] at C1
   have C1:=Lib.hid C1
   clear hg hch hown hbox hso hcell hcell2 hl1 e1 e2 e3 e4 e5 hW2 hxk hyk
   go_wp2_with fail
   refine wp_region_still_tail 9 (by kernel_rfl) (by kernel_rfl) ?_
   simp only [List.take_succ_cons,List.take_zero,List.drop_succ_cons,List.drop_zero]
   iterate 9 (refine still_want rfl (fun K hK=>?_); go_simp; refine hK _ ?_; clear hK K)
   refine wpStill_nil ?_
   change wpList _ _ _ _ _ wr.drew
   rw [← HW2.out]
   clear cx cy cb
   go_wp2_with fail
   refine C1.out.mono ?_
   rintro e w3 ⟨rfl,h1,h2⟩
   have HG3:=Lib.hid h1
   have HCH3:=Lib.hid (HCH2.out.trans h2)
   have HO3:=Lib.hid (own_gt HO2.out h2)
   have hb3:=box_gt HBX2.out h2
   have HBX3:=Lib.hid hb3
   have cb3:w3.cell? ⟨w.heap.size,0,none⟩=some (.pointer (some ⟨b,0,none⟩)):=hb3.cell 0
   have C2:=mkr_xor h1 (by have:=HN.out; have:=HST.out.l1; have:=HL1.out; omega) HST.out.h1 HST.out.h1l
   rw [← E2.out] at C2
   have C2:=Lib.hid C2
   clear h1 h2 hb3
   go_wp2_with fail
   refine C2.out.mono ?_
   rintro e w4 ⟨rfl,h1,h2⟩
   have HG4:=Lib.hid h1
   have HCH4:=Lib.hid (HCH3.out.trans h2)
   have HO4:=Lib.hid (own_gt HO3.out h2)
   have HBX4:=Lib.hid (box_gt HBX3.out h2)
   have hs4:=HCH4.out.size
   clear h1 h2 cb3
   go_wp2_with (at_builtin; refine wpList_append_sl _ rfl (.tmp 27) (.tmp 32) _ rfl w.heap.size 29 i0 _ 1 8 Tryz.underlying28 HIN.out.1 HIN.out.2.1 HIN.out.2.2.1 HIN.out.2.2.2 rfl (by omega) _ k _ rfl (HO4.out.alloc _) (w4.heap.size+1) (some ⟨w4.heap.size,0,none⟩) 1 1 [.int .i64 (r2.2:Nat)] rfl (reads_new rfl (by omega) rfl) (ints_one (by simp)) (le_maxLen (by omega)) (le_bytes (by omega) (by omega)) (by simp; omega) ?_; intro A5 c5 w5 hown5 hg5)
   have hg6:(w4.alloc (.cells #[.int .i64 (r2.2:Nat)] 29)).grownBy w5 (Value.slice Ao k co).ownBlock:=hg5
   have HG5:=Lib.hid (HG4.out.row (row_chg HO4.out hg6))
   have hch5:=gt_grown HCH4.out HO4.out (Nat.le_refl _) hg6
   have HCH5:=Lib.hid hch5
   have hb5:=(HBX4.out.alloc _).grown hg6 (own_blk_ne HO4.out HBX4.out (by decide)).symm
   have HBX5:=Lib.hid hb5
   have ho5:w5.ownsRow w.heap.size 29 1 (.slice A5 (k+1) c5) (k+1) (natVals (outs++[r2.2])):=by rw [natVals_append]; exact hown5
   have HO5:=Lib.hid ho5
   obtain ⟨ad',o',hA',_,_,hcell⟩:=(HX.out.gt hch5).2 (by omega)
   obtain rfl:ad'=ad:=by injection hA' with h; exact h.symm
   obtain ⟨ad2',o2',hA2',_,_,hcell2⟩:=(HY.out.gt hch5).2 (by omega)
   obtain rfl:ad2'=ad2:=by injection hA2' with h; exact h.symm
   have cx:=hcell k x HXK.out
   have cy:=hcell2 k y HYK.out
   have cb:w5.cell? ⟨w.heap.size,0,none⟩=some (.pointer (some ⟨b,0,none⟩)):=hb5.cell 0
   have HS:=Lib.hid (show ∀ w',Chg (GT B) w5 w'→w'.cell? ⟨w.heap.size,0,none⟩=some (.pointer (some ⟨b,0,none⟩))∧w'.cell? (ad'.add k)=some (.int .i64 (x:Nat))∧w'.cell? (ad2'.add k)=some (.int .i64 (y:Nat)) from fun w' hc=>by
    obtain ⟨ad3,o3,hA3,_,_,hc3⟩:=(HX.out.gt (hch5.trans hc)).2 (by omega)
    obtain rfl:ad3=ad':=by injection hA3 with h; exact h.symm
    obtain ⟨ad4,o4,hA4,_,_,hc4⟩:=(HY.out.gt (hch5.trans hc)).2 (by omega)
    obtain rfl:ad4=ad2':=by injection hA4 with h; exact h.symm
    exact ⟨(box_gt hb5 hc).cell 0,hc3 k x HXK.out,hc4 k y HYK.out⟩)
   obtain ⟨W6,hW6⟩:∃ W6,W6=w5.drew:=⟨_,rfl⟩
   have hg6':GA W6 B b r2.1:=by rw [hW6]; exact HG5.out.drewN 1
   have HC6:=Lib.hid (show Chg (GT B) w5 W6 by rw [hW6]; exact (Chg.refl _ _).drew)
   have C3:=mkr_and hg6' (by have:=HN.out; have:=HST.out.l2; have:=HL1.out; omega) HST.out.h2x HST.out.h2y
   rw [← E3.out] at C3
   have C3:=Lib.hid C3
   have HW6:=Lib.hid hW6
   have HCS:=Lib.hid (And.intro cb (And.intro cx cy))
   clear hown5 hg5 hg6 hch5 hb5 ho5 hcell hcell2 hA' hA2' hg6' hW6 cx cy cb
   go_wp2_with fail
   refine wp_region_seq (S:=fun w'=>w'.cell? ⟨w.heap.size,0,none⟩=some (.pointer (some ⟨b,0,none⟩))∧w'.cell? (ad'.add k)=some (.int .i64 (x:Nat))∧w'.cell? (ad2'.add k)=some (.int .i64 (y:Nat)))
    [(0,false),(1,false),(2,false),(3,false),(4,false),(5,false),(6,false),(7,false),(8,false),(9,false),(11,false),(12,false),(13,false),(10,true),(14,true),(15,true),(16,false)] (by kernel_rfl) (by kernel_rfl) (by kernel_rfl) HCS.out ?_
   rw [← HW6.out]
   iterate 13 (refine seq_take _ _ rfl (by kernel_rfl) (fun wv hv=>by obtain ⟨hv1,hv2,hv3⟩:=hv; go_simp; try with_reducible rfl) ?_; simp only [Act.put,List.getElem_toArray,List.getElem_cons_zero,List.getElem_cons_succ,List.setIfInBounds_toArray,List.set_cons_zero,List.set_cons_succ])
   refine seq_act _ rfl (fun K hK=>?_)
   go_simp
   refine C3.out.mono ?_
   rintro e w7 ⟨rfl,h1,h2⟩
   have HC7:=Lib.hid (HC6.out.trans h2)
   have C4:=mkr_and h1 (by have:=HN.out; have:=HST.out.l3; have:=HL1.out; omega) HST.out.h31 HST.out.h3l
   rw [← E4.out] at C4
   have C4:=Lib.hid C4
   clear h1 h2
   go_simp
   refine hK _ _ (HS.out _ HC7.out) ?_
   clear hK K
   refine seq_act _ rfl (fun K hK=>?_)
   go_simp
   refine C4.out.mono ?_
   rintro e w8 ⟨rfl,h1,h2⟩
   have HC8:=Lib.hid (HC7.out.trans h2)
   have C5:=mkr_or h1 (by have:=HN.out; have:=HST.out.l4; have:=HL1.out; omega) HST.out.h43 HST.out.h4
   rw [← E5.out] at C5
   have C5:=Lib.hid C5
   clear h1 h2
   go_simp
   refine hK _ _ (HS.out _ HC8.out) ?_
   clear hK K
   refine seq_act _ rfl (fun K hK=>?_)
   go_simp
   refine C5.out.mono ?_
   rintro e w9 ⟨rfl,h1,h2⟩
   have HC9:=Lib.hid (HC8.out.trans h2)
   have HG9:=Lib.hid h1
   clear h1 h2
   go_simp
   refine hK _ _ (HS.out _ HC9.out) ?_
   clear hK K
   iterate 1 (refine seq_take _ _ rfl (by kernel_rfl) (fun wv hv=>by go_simp; try with_reducible rfl) ?_; simp only [Act.put,List.getElem_toArray,List.getElem_cons_zero,List.getElem_cons_succ,List.setIfInBounds_toArray,List.set_cons_zero,List.set_cons_succ])
   refine seq_nil ?_
   go_wp2_with fail
   go_roundw
   case rel=>exact ⟨k+1,_,_,_,by omega,by go_num,rfl,⟨_,_,rfl⟩,HG9.out,HCH5.out.trans HC9.out,own_gt HO5.out HC9.out,box_gt HBX5.out HC9.out,HST.out.next⟩
   case measure=>simp [intOf]; omega
  ·obtain rfl:k=xs.length:=by omega
   go_wp2
   go_ret2
   have hs:=HSO.out
   rw [List.take_length] at hs
   have hyl:ys.take xs.length=ys:=List.take_of_length_le (by have:=HY.out.1; omega)
   rw [hyl] at hs
   exact ⟨Ao,co,gs1,outs,last,rfl,HG1.out,HCH.out,HO.out,hs⟩
end Go.Proofs.YthkhfbofhdfdoaaGreatDoor
namespace Go.Proofs.YthkhfbofhdfdoaaGreatDoor
open Go.RowKit
structure MadeW (gs gs':List Gm.Gate) (k:Nat) (outs:List Nat) (f:List Gm.Gate×List Nat):Prop where
 ext:Gm.Ext gs gs'
 all:AllHas gs' outs
 len:gs'.length≤gs.length+k
 eq:(gs',outs)=f
structure MadeL (gs gs':List Gm.Gate) (k:Nat) (out:Nat) (f:List Gm.Gate×Nat):Prop where
 ext:Gm.Ext gs gs'
 has:Gm.has gs' out
 len:gs'.length≤gs.length+k
 eq:(gs',out)=f
def WL (w:World) (B b:Nat) (gs:List Gm.Gate) (k n:Nat) (f:List Gm.Gate×List Nat) (g:List Gm.Gate×Nat) (e:Ending) (w':World):Prop:=
 ∃ A c gs' outs last,e = .returned (.tuple #[.slice A n c,.int .i64 (last:Nat)])∧GA w' B b gs'∧Chg (GT B) w w'∧w'.ownsRow w.heap.size 29 1 (.slice A n c) n (natVals outs)∧MadeW gs gs' k outs f∧MadeL gs gs' k last g
def LG (w:World) (B b:Nat) (gs:List Gm.Gate) (k:Nat) (f:List Gm.Gate×Nat) (e:Ending) (w':World):Prop:=
 ∃ gs' out,e = .returned (.int .i64 (out:Nat))∧GA w' B b gs'∧Chg (GT B) w w'∧MadeL gs gs' k out f
theorem allHas_not {gs:List Gm.Gate} {l:List Nat} (h:AllHas gs l):AllHas gs (l.map Gm.notL):=fun x hx=>by
 obtain ⟨y,hy,rfl⟩:=List.mem_map.1 hx; exact Gm.has_not (h y hy)
theorem has_zero (gs:List Gm.Gate):Gm.has gs 0:=by unfold Gm.has; omega
theorem has_one (gs:List Gm.Gate):Gm.has gs 1:=by unfold Gm.has; omega
theorem allHas_small {gs:List Gm.Gate} {l:List Nat} (h:AllHas gs l) (hn:gs.length≤100000):∀ x∈l,x≤1000000:=fun x hx=>by
 have:=h x hx; unfold Gm.has at this; omega
theorem sum_wl {w:World} {B b:Nat} {gs:List Gm.Gate} (h:GA w B b gs) {A A2:Option Addr} {c1 c2 n:Nat} {xs ys:List Nat} (hx:Held w B A n xs) (hy:Held w B A2 n ys) (gx:AllHas gs xs) (gy:AllHas gs ys) {c:Nat} (hc:Gm.has gs c)
  (hn:gs.length+9*n≤99000) (hl:n≤1000) :
  Calls Tryz.prog 33 #[.agg #[.pointer (some ⟨b,0,none⟩)],.slice A n c1,.slice A2 n c2,.int .i64 (c:Nat)] w
   (WL w B b gs (9*n) n ((sumZ gs xs ys c).1,(sumZ gs xs ys c).2.1) ((sumZ gs xs ys c).1,(sumZ gs xs ys c).2.2)):=by
 obtain rfl:=hx.1
 refine (sum_any (c1:=c1) (c2:=c2) h hx hy gx gy hc hn hl).mono ?_
 rintro e w' ⟨A',k,gs',outs,last,rfl,h1,h2,h3,h4⟩
 exact ⟨A',k,gs',outs,last,rfl,h1,h2,h3,⟨h4.ext,h4.outs_,h4.len,by rw [← h4.eq]⟩,⟨h4.ext,h4.last_,h4.len,by rw [← h4.eq]⟩⟩
attribute [local irreducible] wpSeq
end Go.Proofs.YthkhfbofhdfdoaaGreatDoor
namespace Go.Proofs.YthkhfbofhdfdoaaGreatDoor
open Go.RowKit
theorem Held.form {w:World} {B n:Nat} {A:Option Addr} {xs:List Nat} (h:Held w B A n xs) (hn:0<n):∃ ad,A=some ad:=by
 obtain ⟨ad,_,hA,_⟩:=h.2 hn; exact ⟨ad,hA⟩
theorem Held.at_ {w:World} {B n k x:Nat} {ad:Addr} {xs:List Nat} (h:Held w B (some ad) n xs) (hx:xs[k]? = some x):w.cell? (ad.add k)=some (.int .i64 (x:Nat)):=by
 have hk:=(List.getElem?_eq_some_iff.1 hx).1
 obtain ⟨ad',_,hA,_,_,hc⟩:=h.2 (by have:=h.1; omega)
 obtain rfl:ad=ad':=by injection hA
 exact hc k x hx
theorem MadeW.to {gs gs1:List Gm.Gate} {k k':Nat} {outs:List Nat} {f:List Gm.Gate×List Nat} (h:MadeW gs gs1 k outs f) (hk:k≤k'):MadeW gs gs1 k' outs f:=
 ⟨h.ext,h.all,by have:=h.len; omega,h.eq⟩
attribute [local irreducible] wpSeq
set_option maxRecDepth 100000 in
set_option maxHeartbeats 1000000 in
theorem minus_any {w:World} {B b:Nat} {gs:List Gm.Gate} (h:GA w B b gs) {A A2:Option Addr} {c c2 n:Nat} {xs ys:List Nat} (hx:Held w B A n xs) (hy:Held w B A2 n ys) (gx:AllHas gs xs) (gy:AllHas gs ys) (hn:gs.length+9*n≤99000) (hl:n≤1000) :
  Calls Tryz.prog 40 #[.agg #[.pointer (some ⟨b,0,none⟩)],.slice A n c,.slice A2 n c2] w (WL w B b gs (9*n) n ((sumZ gs xs (ys.map Gm.notL) 1).1,(sumZ gs xs (ys.map Gm.notL) 1).2.1) ((sumZ gs xs (ys.map Gm.notL) 1).1,(sumZ gs xs (ys.map Gm.notL) 1).2.2)):=by
 obtain ⟨W2,hW2⟩:∃ W2,W2=(w.alloc (.cells #[.pointer (some ⟨b,0,none⟩)] 60)).drew:=⟨_,rfl⟩
 have hb2:Below w.heap.size w W2:=by rw [hW2]; exact below_drewN ((Below.refl _ _).alloc (Nat.le_refl _) _) 1
 have bx2:Blk W2 w.heap.size 60 #[.pointer (some ⟨b,0,none⟩)]:=by rw [hW2]; exact Blk.new w _ _
 have C1:=Lib.hid (turned_any (c:=c2) (hy.new hb2) (allHas_small gy (by omega)) hl)
 have HX:=Lib.hid (hx.new hb2)
 have HG:=Lib.hid (h.new hb2)
 have HB2:=Lib.hid hb2
 have HBX:=Lib.hid bx2
 have HGX:=Lib.hid gx
 have HGY:=Lib.hid gy
 have HN:=Lib.hid hn
 have HW2:=Lib.hid hW2
 have HS:=Lib.hid (bx2.cell 0)
 clear h hx hy gx gy hn hW2 hb2 bx2
 go_enter Tryz.func40,Tryz.ntmps40
 go_wp2_with fail
 refine wp_region_seq (S:=fun w'=>w'.cell? ⟨w.heap.size,0,none⟩=some (.pointer (some ⟨b,0,none⟩))) [(0,false),(1,false),(2,false),(3,true),(4,true),(5,false),(6,false),(7,false),(8,false)] (by kernel_rfl) (by kernel_rfl) (by kernel_rfl) (by rw [← HW2.out]; exact HS.out) ?_
 rw [← HW2.out]
 iterate 3 (refine seq_take _ _ rfl (by kernel_rfl) (fun wv hv=>by have hv1:=hv; clear hv; go_simp; try with_reducible rfl) ?_; simp only [Act.put,List.getElem_toArray,List.getElem_cons_zero,List.getElem_cons_succ,List.setIfInBounds_toArray,List.set_cons_zero,List.set_cons_succ])
 refine seq_act _ rfl (fun K hK=>?_)
 go_simp
 refine C1.out.mono ?_
 rintro e w3 ⟨A3,c3,rfl,ho,hb⟩
 have HO3:=Lib.hid ho
 have HB3:=Lib.hid hb
 have HBX3:=Lib.hid (HBX.out.below hb HBX.out.lt)
 clear ho hb
 go_simp
 refine hK _ _ (HBX3.out.cell 0) ?_
 clear hK K
 refine seq_act _ rfl (fun K hK=>?_)
 go_simp
 refine (sum_wl (HG.out.new HB3.out) (HX.out.new HB3.out) (Held.of_own (B:=B) HO3.out) HGX.out (allHas_not HGY.out) (has_one gs) HN.out hl).mono ?_
 rintro e w5 ⟨A5,c5,gs',outs,last,rfl,h1,h2,h3,h4,h5⟩
 have HG5:=Lib.hid h1
 have HC5:=Lib.hid h2
 have HO5:=Lib.hid h3
 have HM5:=Lib.hid h4
 have HM6:=Lib.hid h5
 clear h1 h2 h3 h4 h5
 go_simp
 refine hK _ _ ((box_gt HBX3.out HC5.out).cell 0) ?_
 clear hK K
 iterate 4 (refine seq_take _ _ rfl (by kernel_rfl) (fun wv hv=>by go_simp; try with_reducible rfl) ?_; simp only [Act.put,List.getElem_toArray,List.getElem_cons_zero,List.getElem_cons_succ,List.setIfInBounds_toArray,List.set_cons_zero,List.set_cons_succ])
 refine seq_nil ?_
 go_wp2
 go_ret2
 have hb4:Below w.heap.size w w3:=HB2.out.trans (HB3.out.mono HB2.out.size)
 exact ⟨A5,c5,gs',outs,last,rfl,HG5.out,(Chg.of_new hb4).trans HC5.out,own_base HO5.out hb4.size,HM5.out,HM6.out⟩
end Go.Proofs.YthkhfbofhdfdoaaGreatDoor
namespace Go.Proofs.YthkhfbofhdfdoaaGreatDoor
open Go.RowKit
def SmR (W:World) (B b:Nat) (gs:List Gm.Gate) (xs ys:List Nat) (ov iv:Value) (wr:World):Prop:=
 ∃ k gs' out,k≤xs.length∧iv = .int .i64 (k:Nat)∧ov = .int .i64 (out:Nat)∧GA wr B b gs'∧Chg (GT B) W wr∧Blk wr W.heap.size 60 #[.pointer (some ⟨b,0,none⟩)] ∧
  MadeL gs gs' (4*k) out (sameZ gs (xs.take k) (ys.take k))
structure SmStep (gs gs1:List Gm.Gate) (xs ys:List Nat) (out k x y:Nat) (r1 r2:List Gm.Gate×Nat):Prop where
 hx:Gm.has gs1 x
 hy:Gm.has gs1 y
 h1:Gm.has r1.1 (Gm.notL r1.2)
 small:r1.2≤1000000
 h1o:Gm.has r1.1 out
 l1:r1.1.length≤gs1.length+3
 next:MadeL gs r2.1 (4*(k+1)) r2.2 (sameZ gs (xs.take (k+1)) (ys.take (k+1)))
theorem sm_step {gs gs1:List Gm.Gate} {xs ys:List Nat} {out k x y:Nat} (hw:Gm.Wf gs1) (hs:MadeL gs gs1 (4*k) out (sameZ gs (xs.take k) (ys.take k))) (gx:AllHas gs xs) (gy:AllHas gs ys) (hx:xs[k]? = some x) (hy:ys[k]? = some y)
  (hl:gs1.length≤99000) {r1 r2:List Gm.Gate×Nat} (e1:r1=Gm.xorG gs1 x y) (e2:r2=Gm.andG r1.1 out (Gm.notL r1.2)):SmStep gs gs1 xs ys out k x y r1 r2:=by
 have kx:=(List.getElem?_eq_some_iff.1 hx).1
 have ky:=(List.getElem?_eq_some_iff.1 hy).1
 have hx0:=gx x (List.mem_of_getElem? hx)
 have hy0:=gy y (List.mem_of_getElem? hy)
 have w1:=fun inp=>Gm.comes_xor (inp:=inp) hw (hs.ext.has hx0) (hs.ext.has hy0)
 rw [← e1] at w1
 have ho1:=(w1 []).ext.has hs.has
 have w2:=fun inp=>Gm.comes_and (inp:=inp) (w1 []).wf ho1 (Gm.has_not (w1 []).has)
 rw [← e2] at w2
 have l1:r1.1.length≤gs1.length+3:=by rw [e1]; exact Gm.orOf_len ..
 have l2:r2.1.length≤r1.1.length+1:=by rw [e2]; exact Gm.andG_len ..
 have hlen:=hs.len
 refine ⟨hs.ext.has hx0,hs.ext.has hy0,Gm.has_not (w1 []).has,?_,ho1,l1,(hs.ext.trans (w1 []).ext).trans (w2 []).ext,(w2 []).has,by omega,?_⟩
 ·have:=(w1 []).has; unfold Gm.has at this; omega
 ·have q:=hs.eq
  have hll:(xs.take k).length=(ys.take k).length:=by rw [List.length_take,List.length_take]; omega
  unfold sameZ at q ⊢
  rw [Gm.take_one hx,Gm.take_one hy,List.zip_append hll,List.foldl_append,← q,e2,e1]
  rfl
attribute [local irreducible] wpSeq
set_option maxRecDepth 100000 in
set_option maxHeartbeats 2000000 in
theorem same_any {w:World} {B b:Nat} {gs:List Gm.Gate} (h:GA w B b gs) {A A2:Option Addr} {c1 c2 n:Nat} {xs ys:List Nat} (hx:Held w B A n xs) (hy:Held w B A2 n ys) (gx:AllHas gs xs) (gy:AllHas gs ys)
  (hn:gs.length+4*n≤98000) (hl:n≤1000) :
  Calls Tryz.prog 19 #[.agg #[.pointer (some ⟨b,0,none⟩)],.slice A n c1,.slice A2 n c2] w (LG w B b gs (4*n) (sameZ gs xs ys)):=by
 obtain rfl:=hx.1
 have HG:=Lib.hid h
 have HX:=Lib.hid hx
 have HY:=Lib.hid hy
 have GX:=Lib.hid gx
 have GY:=Lib.hid gy
 have HN:=Lib.hid hn
 clear h hx hy gx gy hn
 go_enter Tryz.func19,Tryz.ntmps19
 go_wp2_with fail
 go_loopw [7,11] (fun ov iv wr=>SmR w B b gs xs ys ov iv wr) (fun _ iv _=>xs.length-(intOf iv).toNat)
 case atStart=>
  refine ⟨0,gs,1,Nat.zero_le _,rfl,rfl,HG.out.new ((Below.refl _ _).alloc (Nat.le_refl _) _),(Chg.refl _ _).alloc _,Blk.new w _ _,.refl _,has_one gs,by simp,rfl⟩
 case round=>
  obtain ⟨k,gs1,out,hk,rfl,rfl,hg,hch,hbox,hso⟩:=hrel
  by_cases hkl:k<xs.length
  ·obtain ⟨x,hxk⟩:∃ x,xs[k]? = some x:=⟨_,List.getElem?_eq_getElem hkl⟩
   obtain ⟨y,hyk⟩:∃ y,ys[k]? = some y:=⟨_,List.getElem?_eq_getElem (by have:=HY.out.1; omega)⟩
   obtain ⟨ad,rfl⟩:=HX.out.form (by omega)
   obtain ⟨ad2,rfl⟩:=HY.out.form (by omega)
   have HS:=Lib.hid (show ∀ w',Chg (GT B) w w'→Blk w' w.heap.size 60 #[.pointer (some ⟨b,0,none⟩)]→w'.cell? ⟨w.heap.size,0,none⟩=some (.pointer (some ⟨b,0,none⟩))∧w'.cell? (ad.add k)=some (.int .i64 (x:Nat))∧w'.cell? (ad2.add k)=some (.int .i64 (y:Nat)) from
    fun w' hc hb=>⟨hb.cell 0,(HX.out.gt hc).at_ hxk,(HY.out.gt hc).at_ hyk⟩)
   have hl1:gs1.length≤gs.length+4*k:=hso.len
   obtain ⟨r1,e1⟩:∃ r,r=Gm.xorG gs1 x y:=⟨_,rfl⟩
   obtain ⟨r2,e2⟩:∃ r,r=Gm.andG r1.1 out (Gm.notL r1.2):=⟨_,rfl⟩
   have HST:=Lib.hid (sm_step hg.wf hso GX.out GY.out hxk hyk (by have:=HN.out; omega) e1 e2)
   obtain ⟨W2,hW2⟩:∃ W2,W2=wr.drew:=⟨_,rfl⟩
   have hc2:Chg (GT B) w W2:=by rw [hW2]; exact hch.drew
   have hbx2:Blk W2 w.heap.size 60 #[.pointer (some ⟨b,0,none⟩)]:=by rw [hW2]; exact hbox
   have C1:=mkr_xor (show GA W2 B b gs1 by rw [hW2]; exact hg.drewN 1) (by have:=HN.out; omega) HST.out.hx HST.out.hy
   rw [← e1] at C1
   have C1:=Lib.hid C1
   have E2:=Lib.hid e2
   have HL1:=Lib.hid hl1
   have HC2:=Lib.hid hc2
   have HBX2:=Lib.hid hbx2
   have HS2:=Lib.hid (HS.out _ hc2 hbx2)
   have HW2:=Lib.hid hW2
   clear hxk hyk hl1 e1 e2 hW2 hc2 hbx2 hg hch hbox hso
   go_wp2_with fail
   refine wp_region_seq (S:=fun w'=>w'.cell? ⟨w.heap.size,0,none⟩=some (.pointer (some ⟨b,0,none⟩))∧w'.cell? (ad.add k)=some (.int .i64 (x:Nat))∧w'.cell? (ad2.add k)=some (.int .i64 (y:Nat))) [(0,false),(1,false),(2,false),(3,false),(4,false),(5,false),(6,false),(7,false),(8,false),(9,false),(10,false),(11,true),(12,true),(13,true),(14,false)] (by kernel_rfl) (by kernel_rfl) (by kernel_rfl) (by rw [← HW2.out]; exact HS2.out) ?_
   rw [← HW2.out]
   iterate 11 (refine seq_take _ _ rfl (by kernel_rfl) (fun wv hv=>by obtain ⟨hv1,hv2,hv3⟩:=hv; go_simp; try with_reducible rfl) ?_; simp only [Act.put,List.getElem_toArray,List.getElem_cons_zero,List.getElem_cons_succ,List.setIfInBounds_toArray,List.set_cons_zero,List.set_cons_succ])
   refine seq_act _ rfl (fun K hK=>?_)
   go_simp
   refine C1.out.mono ?_
   rintro e w3 ⟨rfl,h1,h2⟩
   have HC3:=Lib.hid (HC2.out.trans h2)
   have HBX3:=Lib.hid (box_gt HBX2.out h2)
   have C2:=mkr_and h1 (by have:=HN.out; have:=HL1.out; have:=HST.out.l1; omega) HST.out.h1o HST.out.h1
   rw [← E2.out] at C2
   have C2:=Lib.hid C2
   clear h1 h2
   go_simp
   refine hK _ _ (HS.out _ HC3.out HBX3.out) ?_
   clear hK K
   refine seq_act _ rfl (fun K hK=>?_)
   go_simp
   refine (not_any r1.2 _ HST.out.small).mono ?_
   rintro e w4 ⟨rfl,rfl⟩
   go_simp
   refine hK _ _ (HS.out _ HC3.out HBX3.out) ?_
   clear hK K
   refine seq_act _ rfl (fun K hK=>?_)
   go_simp
   refine C2.out.mono ?_
   rintro e w5 ⟨rfl,h1,h2⟩
   have HG5:=Lib.hid h1
   have HC5:=Lib.hid (HC3.out.trans h2)
   have HBX5:=Lib.hid (box_gt HBX3.out h2)
   clear h1 h2
   go_simp
   refine hK _ _ (HS.out _ HC5.out HBX5.out) ?_
   clear hK K
   iterate 1 (refine seq_take _ _ rfl (by kernel_rfl) (fun wv hv=>by go_simp; try with_reducible rfl) ?_; simp only [Act.put,List.getElem_toArray,List.getElem_cons_zero,List.getElem_cons_succ,List.setIfInBounds_toArray,List.set_cons_zero,List.set_cons_succ])
   refine seq_nil ?_
   go_wp2_with fail
   go_roundw
   case rel=>exact ⟨k+1,_,_,by omega,by go_num,rfl,HG5.out,HC5.out,HBX5.out,HST.out.next⟩
   case measure=>simp [intOf]; omega
  ·obtain rfl:k=xs.length:=by omega
   have HG1:=Lib.hid hg
   have HCH:=Lib.hid hch
   have HSO:=Lib.hid hso
   clear hg hch hbox hso
   go_wp2
   go_ret
   have hso:=HSO.out
   rw [List.take_length,List.take_of_length_le (by have:=HY.out.1; omega)] at hso
   exact ⟨gs1,out,rfl,HG1.out,HCH.out,hso⟩
end Go.Proofs.YthkhfbofhdfdoaaGreatDoor
namespace Go.Proofs.YthkhfbofhdfdoaaGreatDoor
open Go.RowKit
theorem Held.reads {w:World} {B n:Nat} {A:Option Addr} {xs:List Nat} (h:Held w B A n xs):Reads w w.heap.size 1 A n (natVals xs):=by
 refine ⟨by rw [natVals_length,h.1,Nat.mul_one],fun hn=>?_⟩
 obtain ⟨ad,o,hA,ho,_,hc⟩:=h.2 hn
 refine ⟨ad,hA,lt_of_heap ho,fun j u hu=>?_⟩
 have hj:j<xs.length:=by have:=(List.getElem?_eq_some_iff.1 hu).1; rwa [natVals_length] at this
 have h2:=natVals_at (List.getElem?_eq_getElem hj)
 rw [h2] at hu
 injection hu with hu
 rw [← hu]
 exact hc j _ (List.getElem?_eq_getElem hj)
attribute [local irreducible] wpSeq wpStill
end Go.Proofs.YthkhfbofhdfdoaaGreatDoor
namespace Go.Proofs.YthkhfbofhdfdoaaGreatDoor
open Go.RowKit
def sgK (n:Nat):Nat:=36*n+12*(n+1)*n+3
theorem own_one (w:World) (x:Nat):(w.alloc (.cells #[.int .i64 (x:Nat)] 29)).ownsRow w.heap.size 29 1 (.slice (some ⟨w.heap.size,0,none⟩) 1 1) 1 (natVals [x]):=
 own_full (xs:=natVals [x]) (Nat.le_refl _) rfl (by omega)
theorem madeL_zero {gs gs':List Gm.Gate} {k:Nat} {outs:List Nat} {f:List Gm.Gate×List Nat} (h:MadeW gs gs' k outs f):MadeL gs gs' k 0 (f.1,0):=⟨h.ext,has_zero gs',h.len,by rw [← h.eq]⟩
theorem GA.alloc1 {w:World} {B b:Nat} {gs:List Gm.Gate} (h:GA w B b gs) (o:Obj):GA (w.alloc o) B b gs:=h.new ((Below.refl _ _).alloc (Nat.le_refl _) _)
attribute [local irreducible] wpSeq wpStill
set_option maxRecDepth 100000 in
set_option maxHeartbeats 2000000 in
theorem ints_plus {w:World} {B b:Nat} {gs:List Gm.Gate} (h:GA w B b gs) {A A2:Option Addr} {c1 c2 m:Nat} {xs ys:List Nat} (hx:Held w B A (m+1) xs) (hy:Held w B A2 (m+1) ys) (gx:AllHas gs xs) (gy:AllHas gs ys)
  (hn:gs.length+(sgK (m+1)+10*(m+1)*(m+1))≤88000) (hl:m+1≤80) :
  Calls Tryz.prog 22 #[.agg #[.pointer (some ⟨b,0,none⟩)],.string ⟨#[43]⟩,.slice A (m+1) c1,.slice A2 (m+1) c2] w
   (WL w B b gs (sgK (m+1)+10*(m+1)*(m+1)) (m+1) ((sumZ gs xs ys 0).1,(sumZ gs xs ys 0).2.1) ((sumZ gs xs ys 0).1,0)):=by
 have HK:Hid (gs.length+(36*(m+1)+12*(m+1+1)*(m+1)+3+10*(m+1)*(m+1))≤88000):=Lib.hid hn
 obtain ⟨W2,hW2⟩:∃ W2,W2=(w.alloc (.cells #[.pointer (some ⟨b,0,none⟩)] 60)):=⟨_,rfl⟩
 have hb2:Below w.heap.size w W2:=by rw [hW2]; exact (Below.refl _ _).alloc (Nat.le_refl _) _
 have HC2:=Lib.hid (Chg.of_new (S:=GT B) hb2)
 have C1:=Lib.hid (sum_wl (c1:=c1) (c2:=c2) (c:=0) (h.new hb2) (hx.gt HC2.out) (hy.gt HC2.out) gx gy (has_zero gs) (by omega) (by omega))
 have HW2:=Lib.hid hW2
 clear h hx hy gx gy hn hW2 hb2
 go_enter Tryz.func22,Tryz.ntmps22
 go_wp2_with fail
 rw [← HW2.out]
 refine C1.out.mono ?_
 rintro e w3 ⟨A3,c3,gs3,l3,last,rfl,h1,h2,h3,h4,h5⟩
 have HG3:=Lib.hid h1
 have HC3:=Lib.hid (HC2.out.trans h2)
 have HO3:=Lib.hid h3
 have HM3:=Lib.hid h4
 clear h1 h2 h3 h4 h5
 go_wp2
 go_ret2
 exact ⟨A3,c3,gs3,l3,0,rfl,HG3.out,HC3.out,own_base HO3.out HC2.out.size,HM3.out.to (by unfold sgK; omega),madeL_zero (HM3.out.to (by unfold sgK; omega))⟩
set_option maxRecDepth 100000 in
set_option maxHeartbeats 2000000 in
theorem ints_minus {w:World} {B b:Nat} {gs:List Gm.Gate} (h:GA w B b gs) {A A2:Option Addr} {c1 c2 m:Nat} {xs ys:List Nat} (hx:Held w B A (m+1) xs) (hy:Held w B A2 (m+1) ys) (gx:AllHas gs xs) (gy:AllHas gs ys)
  (hn:gs.length+(sgK (m+1)+10*(m+1)*(m+1))≤88000) (hl:m+1≤80) :
  Calls Tryz.prog 22 #[.agg #[.pointer (some ⟨b,0,none⟩)],.string ⟨#[45]⟩,.slice A (m+1) c1,.slice A2 (m+1) c2] w
   (WL w B b gs (sgK (m+1)+10*(m+1)*(m+1)) (m+1) ((sumZ gs xs (ys.map Gm.notL) 1).1,(sumZ gs xs (ys.map Gm.notL) 1).2.1) ((sumZ gs xs (ys.map Gm.notL) 1).1,0)):=by
 have HK:Hid (gs.length+(36*(m+1)+12*(m+1+1)*(m+1)+3+10*(m+1)*(m+1))≤88000):=Lib.hid hn
 obtain ⟨W2,hW2⟩:∃ W2,W2=(w.alloc (.cells #[.pointer (some ⟨b,0,none⟩)] 60)):=⟨_,rfl⟩
 have hb2:Below w.heap.size w W2:=by rw [hW2]; exact (Below.refl _ _).alloc (Nat.le_refl _) _
 have HC2:=Lib.hid (Chg.of_new (S:=GT B) hb2)
 have C1:=Lib.hid (minus_any (c:=c1) (c2:=c2) (h.new hb2) (hx.gt HC2.out) (hy.gt HC2.out) gx gy (by omega) (by omega))
 have HW2:=Lib.hid hW2
 clear h hx hy gx gy hn hW2 hb2
 go_enter Tryz.func22,Tryz.ntmps22
 go_wp2_with fail
 rw [← HW2.out]
 refine C1.out.mono ?_
 rintro e w3 ⟨A3,c3,gs3,l3,last,rfl,h1,h2,h3,h4,h5⟩
 have HG3:=Lib.hid h1
 have HC3:=Lib.hid (HC2.out.trans h2)
 have HO3:=Lib.hid h3
 have HM3:=Lib.hid h4
 clear h1 h2 h3 h4 h5
 go_wp2
 go_ret2
 exact ⟨A3,c3,gs3,l3,0,rfl,HG3.out,HC3.out,own_base HO3.out HC2.out.size,HM3.out.to (by unfold sgK; omega),madeL_zero (HM3.out.to (by unfold sgK; omega))⟩
end Go.Proofs.YthkhfbofhdfdoaaGreatDoor
