/- Plain laws and walks for the law WordSums; no condition. -/
import Derived.Test.YthkhfbofhdfdoaaGreatDoorYn
import Derived.Test.YthkhfbofhdfdoaaGreatDoorYc
import Derived.Test.YthkhfbofhdfdoaaGreatDoorBa
import Derived.BigQuiet
import Derived.Deep.DeepCutAuto
namespace Go.Proofs.YthkhfbofhdfdoaaGreatDoor
open Go.RowKit
def PartsAt (w:World) (B:Nat) (A:Option Addr) (ps:List (List Nat)):Prop:=
 ∃ ad o,A=some ad∧w.heap[ad.block]? = some o∧(ad.block<B∨elemOf o=some 28)∧∀ i xs,ps[i]? = some xs→∃ Ai ci,w.cell? (ad.add i)=some (.slice Ai xs.length ci)∧Held w B Ai xs.length xs
theorem PartsAt.chg {w w':World} {B:Nat} {A:Option Addr} {ps:List (List Nat)} {S:Nat→Obj→Prop} (h:PartsAt w B A ps) (hc:Chg S w w') (hS:∀ k o,S k o→B≤k∧elemOf o≠some 28∧elemOf o≠some 29):PartsAt w' B A ps:=by
 obtain ⟨ad,o,rfl,ho,hb,hcell⟩:=h
 have hk:=hc.keep _ _ ho fun hs=>by
  obtain ⟨h1,h2,_⟩:=hS _ _ hs
  rcases hb with hb | hb
  ·omega
  ·exact h2 hb
 refine ⟨ad,o,rfl,hk,hb,fun i xs hx=>?_⟩
 obtain ⟨Ai,ci,h1,h2⟩:=hcell i xs hx
 exact ⟨Ai,ci,(World.cell?_of_block (a:=ad.add i) (by rw [block_of_add]; exact hk.trans ho.symm)).trans h1,h2.chg hc fun k o hs=>⟨(hS k o hs).1,(hS k o hs).2.2⟩⟩
theorem PartsAt.gt {w w':World} {B:Nat} {A:Option Addr} {ps:List (List Nat)} (h:PartsAt w B A ps) (hc:Chg (GT B) w w'):PartsAt w' B A ps:=
 h.chg hc fun k o hs=>⟨hs.1,by rcases hs.2 with e | e | e <;> rw [e] <;> exact ⟨by simp,by simp⟩⟩
theorem PartsAt.same {w w':World} {B:Nat} {ad:Addr} {ps:List (List Nat)} (h:PartsAt w B (some ad) ps) (hc:Chg (GT B) w w') (i:Nat):w'.cell? (ad.add i)=w.cell? (ad.add i):=by
 obtain ⟨ad',o,hA,ho,hb,_⟩:=h
 obtain rfl:ad=ad':=by injection hA
 have hk:=hc.keep _ _ ho fun hs=>by
  rcases hb with hb | hb
  ·have:=hs.1; omega
  ·rcases hs.2 with e | e | e <;> rw [hb] at e <;> simp at e
 exact World.cell?_of_block (a:=ad.add i) (by rw [block_of_add]; exact hk.trans ho.symm)
theorem PartsAt.new {w w':World} {B:Nat} {A:Option Addr} {ps:List (List Nat)} (h:PartsAt w B A ps) (hb:Below w.heap.size w w'):PartsAt w' B A ps:=h.chg (S:=fun _ _=>False) (.of_new hb) (by simp)
theorem PartsAt.lens {w:World} {B:Nat} {A:Option Addr} {ps:List (List Nat)} (h:PartsAt w B A ps):Lens w A (ps.map List.length):=by
 obtain ⟨ad,o,hA,_,_,hc⟩:=h
 refine ⟨ad,hA,fun i n hn=>?_⟩
 rw [List.getElem?_map] at hn
 cases hp:ps[i]? with
 | none=>rw [hp] at hn; cases hn
 | some xs=>
  rw [hp] at hn
  obtain rfl:xs.length=n:=by simpa using hn
  obtain ⟨Ai,ci,h1,_⟩:=hc i xs hp
  exact ⟨Ai,ci,h1⟩
def LcR (n:Nat) (iv:Value):Prop:=∃ k:Nat,k≤n∧iv = .int .i64 k
def OfP (w:World) (B b:Nat) (gs:List Gm.Gate) (k n:Nat) (f:List Gm.Gate×List Nat) (g:List Gm.Gate×Nat) (e:Ending) (w':World):Prop:=
 ∃ A c gs' outs last,e = .returned (.tuple #[.slice A n c,.int .i64 (last:Nat),.nilIface])∧GA w' B b gs'∧Chg (GT B) w w'∧w'.ownsRow w.heap.size 29 1 (.slice A n c) n (natVals outs)∧MadeW gs gs' k outs f∧MadeL gs gs' k last g
theorem GA.setBlk {w:World} {B b g k:Nat} {t:TypeId} {cs:Array Value} {gs:List Gm.Gate} (h:GA w B b gs) (ho:Blk w g t cs) (ht:t≠27∧t≠54) (u:Value):GA (w.setCell ⟨g,k,none⟩ u) B b gs:=by
 refine h.chg (S:=fun _ o=>elemOf o=some t) ⟨rfl,rfl,rfl,by simp [World.setCell],fun j o hj hn=>?_⟩ fun k o _ hs=>by rw [hs]; exact ⟨by simpa using ht.1,by simpa using ht.2,by simp⟩
 refine (Below.heap_setCell _ _ _ _ (fun e=>?_)).trans hj
 subst e
 unfold Blk at ho
 rw [ho] at hj
 injection hj with hj
 subst hj
 exact hn rfl
theorem cell_far {w:World} {p q:Addr} (u:Value) (h:p.block≠q.block):(w.setCell p u).cell? q=w.cell? q:=World.cell?_setCell_other w p q u (fun e=>h (by rw [e]))
structure TwoOp (s:ByteArray):Prop where
 n:arN s=2
 ok:arB s=true
 e1:(s.toList == [112,114,101])=false
 e2:(s.toList == [45,62])=false
 e3:(s.toList == [102,98,121])=false
 e4:(s.toList == [110,111,116])=false
 e5:(s.toList == [110,101,103])=false
 e6:(s.toList == [105,102])=false
 e7:(s.toList == [61])=false
 e8:(s.toList == [60,62])=false
 e9:(s.toList == [97,110,100])=false
 e10:(s.toList == [111,114])=false
 e11:(s.toList == [120,111,114])=false
 e12:(s.toList == [61,62])=false
attribute [local irreducible] wpSeq wpStill
set_option maxRecDepth 100000 in
set_option maxHeartbeats 4000000 in
theorem of_two {w:World} {B b LB:Nat} {gs:List Gm.Gate} (h:GA w B b gs) (hL:Lvls w LB) (hLB:LB≤w.heap.size) {A:Option Addr} {c k n:Nat} {xs ys:List Nat} (hp:PartsAt w B A [xs,ys]) (hx8:xs.length=8) (hy8:ys.length=8) (gx:AllHas gs xs) (gy:AllHas gs ys)
  (hn:gs.length≤99000) {s:ByteArray} (hs:TwoOp s) {f:List Gm.Gate×List Nat} {g:List Gm.Gate×Nat}
  (HI:∀ (W:World) (A0 A1:Option Addr) (c0 c1:Nat),GA W B b gs→Held W B A0 8 xs→Held W B A1 8 ys→Calls Tryz.prog 22 #[.agg #[.pointer (some ⟨b,0,none⟩)],.string s,.slice A0 8 c0,.slice A1 8 c1] W (WL W B b gs k n f g)) :
  Calls Tryz.prog 7 #[.pointer (some ⟨b,0,none⟩),.string s,.slice A 2 c] w (OfP w B b gs k n f g):=by
 obtain ⟨ad,hA,hadlt⟩:∃ ad,A=some ad∧ad.block<w.heap.size:=by
  obtain ⟨ad,o,hA,ho,_,_⟩:=hp; exact ⟨ad,hA,lt_of_heap ho⟩
 subst hA
 have HAD:=Lib.hid hadlt
 clear hadlt
 obtain ⟨WA,hWA⟩:∃ WA,WA=((w.alloc (.cells #[.slice none 0 0] 28)).alloc (.cells #[.int .i64 0] 29)).alloc (.cells #[.nilIface] 31):=⟨_,rfl⟩
 have hba:Below w.heap.size w WA:=by rw [hWA]; exact (((Below.refl _ _).alloc (Nat.le_refl _) _).alloc (by simp) _).alloc (by simp; omega) _
 have b6:Blk WA w.heap.size 28 #[.slice none 0 0]:=by rw [hWA]; exact ((Blk.new w _ _).alloc _).alloc _
 have b7:Blk WA (w.heap.size+1) 29 #[.int .i64 0]:=by
  rw [hWA]; have:=(Blk.new (w.alloc (.cells #[.slice none 0 0] 28)) 29 #[.int .i64 0]).alloc (.cells #[.nilIface] 31); simpa using this
 have b8:Blk WA (w.heap.size+2) 31 #[.nilIface]:=by
  rw [hWA]; have:=Blk.new ((w.alloc (.cells #[.slice none 0 0] 28)).alloc (.cells #[.int .i64 0] 29)) 31 #[.nilIface]; simpa using this
 have hsa:WA.heap.size=w.heap.size+3:=by rw [hWA]; simp
 have CS:=Lib.hid (shape_two (c:=c) (hL.below hba hLB) (by omega) (show Lens WA (some ad) [8,8] by have:=(hp.new hba).lens; simpa [hx8,hy8] using this) hs.n hs.ok hs.e1 hs.e2 hs.e3 hs.e4 hs.e5 hs.e6 hs.e7 hs.e8 hs.e9 hs.e10 hs.e11 hs.e12 (b0:=true) (b1:=true) rfl rfl)
 have HPA:=Lib.hid (hp.new hba)
 have HGA:=Lib.hid (h.new hba)
 have HBA:=Lib.hid hba
 have HB678:=Lib.hid (And.intro b6 (And.intro b7 b8))
 have HWA:=Lib.hid hWA
 have HSA:=Lib.hid hsa
 have H8:=Lib.hid (And.intro hx8 hy8)
 have GX:=Lib.hid gx
 have GY:=Lib.hid gy
 have HHI:=Lib.hid HI
 have HNL:=Lib.hid hn
 obtain ⟨_,_,e1,e2,e3,e4,e5,e6,e7,e8,e9,e10,e11,e12⟩:=hs
 clear h hL hp hx8 hy8 gx gy hba b6 b7 b8 hWA hsa HI hn
 have hmf:∀ (fn:Fn) (first cap:Array Value) (w:World),(Instr.makeFunc fn first cap).run Tryz.prog w = .ok (.func fn first cap) w:=fun _ _ _ _=>rfl
 go_enter_defers Tryz.func7,Tryz.ntmps7
 go_wp2_with fail
 rw [← HWA.out]
 refine CS.out.mono ?_
 rintro e w1 ⟨rfl,hb⟩
 have HP1:=Lib.hid (HPA.out.new hb)
 have HG1:=Lib.hid (HGA.out.new hb)
 have HB1:=Lib.hid hb
 obtain ⟨ad',o,hA',_,_,hcell⟩:=HPA.out.new hb
 obtain rfl:ad=ad':=by injection hA'
 have HCL:=Lib.hid hcell
 clear hb hcell hA'
 go_wp2_with fail
 go_loop [21] (fun iv=>LcR 2 iv) (fun iv=>2-(intOf iv).toNat)
 case atStart=>exact ⟨0,by omega,rfl⟩
 case round=>
  obtain ⟨k0,hk,rfl⟩:=hrel
  by_cases hk2:k0<2
  ·obtain ⟨zs,hz,hzh⟩:∃ zs,[xs,ys][k0]? = some zs∧(AllHas gs zs∧zs.length=8):=by
    match k0,hk2 with
    | 0,_=>exact ⟨xs,rfl,GX.out,H8.out.1⟩
    | 1,_=>exact ⟨ys,rfl,GY.out,H8.out.2⟩
   obtain ⟨Ai,ci,hci,hh⟩:=HCL.out k0 zs hz
   obtain ⟨adz,rfl⟩:=hh.form (by rw [hzh.2]; omega)
   have HH:=Lib.hid hh
   have HZ:=Lib.hid hzh
   have hzl:=hzh.2
   clear hz hh hzh
   rw [hzl] at hci
   clear hzl
   go_wp2_with fail
   go_loop [27] (fun jv=>LcR 8 jv) (fun jv=>8-(intOf jv).toNat)
   case atStart=>exact ⟨0,by omega,rfl⟩
   case round=>
    obtain ⟨j,hj,rfl⟩:=hrel
    by_cases hj8:j<8
    ·obtain ⟨x,hx⟩:∃ x,zs[j]? = some x:=⟨_,List.getElem?_eq_getElem (by have:=HZ.out.2; omega)⟩
     have cx:=HH.out.at_ hx
     have CX:=Lib.hid (has_lit HG1.out (HZ.out.1 x (List.mem_of_getElem? hx)) HNL.out)
     clear hx
     go_wp2_with fail
     refine CX.out.mono ?_
     rintro e w' ⟨rfl,rfl⟩
     go_wp2_with fail
     go_round
     case rel=>exact ⟨j+1,by omega,by go_num⟩
     case measure=>simp [intOf]; omega
    ·obtain rfl:j=8:=by omega
     go_wp2_with fail
     go_round
     case rel=>exact ⟨k0+1,by omega,by go_num⟩
     case measure=>simp [intOf]; omega
  ·obtain rfl:k0=2:=by omega
   obtain ⟨A0,c0,h0,hh0⟩:=HCL.out 0 xs rfl
   obtain ⟨A1,c1,h1,hh1⟩:=HCL.out 1 ys rfl
   rw [H8.out.1] at h0 hh0
   rw [H8.out.2] at h1 hh1
   obtain ⟨b6,b7,b8⟩:=HB678.out
   have b6':=b6.below HB1.out (by rw [HSA.out]; omega)
   have b7':=b7.below HB1.out (by rw [HSA.out]; omega)
   have b8':=b8.below HB1.out (by rw [HSA.out]; omega)
   obtain ⟨W2,hW2⟩:∃ W2,W2=(w1.alloc (.cells #[.pointer (some ⟨b,0,none⟩)] 60)).drew:=⟨_,rfl⟩
   have b13:Blk W2 w1.heap.size 60 #[.pointer (some ⟨b,0,none⟩)]:=by rw [hW2]; exact (Blk.new w1 _ _).drew
   have hb12:Below w1.heap.size w1 W2:=by rw [hW2]; exact below_drewN ((Below.refl _ _).alloc (Nat.le_refl _) _) 1
   have hs1:=HB1.out.size
   have hsa:=HSA.out
   have HBW2:=Lib.hid (show Below w.heap.size w W2 from HBA.out.trans ((HB1.out.trans (hb12.mono hs1)).mono (by omega)))
   have q0:=(hb12.cell (World.block_lt_of_cell? _ _ h0)).trans h0
   have q1:=(hb12.cell (World.block_lt_of_cell? _ _ h1)).trans h1
   have CI:=Lib.hid (HHI.out W2 A0 A1 c0 c1 (HG1.out.new hb12) (hh0.new hb12) (hh1.new hb12))
   have HPW:=Lib.hid (HP1.out.new hb12)
   have HB6:=Lib.hid (b6'.below hb12 b6'.lt)
   have HB7:=Lib.hid (b7'.below hb12 b7'.lt)
   have HB8:=Lib.hid (b8'.below hb12 b8'.lt)
   have HB13:=Lib.hid b13
   have HQ:=Lib.hid (And.intro (b13.cell 0) (And.intro q0 q1))
   have HS1:=Lib.hid (And.intro hs1 hsa)
   have HW2:=Lib.hid hW2
   clear h0 h1 hh0 hh1 b6 b7 b8 b6' b7' b8' hW2 b13 hb12 q0 q1 hs1 hsa
   go_wp2_with fail
   refine wp_region_seq (S:=fun w'=>w'.cell? ⟨w1.heap.size,0,none⟩=some (.pointer (some ⟨b,0,none⟩))∧w'.cell? ad=some (.slice A0 8 c0)∧w'.cell? ⟨ad.block,ad.off+1,none⟩=some (.slice A1 8 c1)) [(0,false),(1,false),(2,false),(3,false),(4,false),(5,false),(6,false),(7,false),(8,true),(9,false),(10,false),(11,false),(12,true),(13,true)] (by kernel_rfl) (by kernel_rfl) (by kernel_rfl) (by rw [← HW2.out]; exact HQ.out) ?_
   rw [← HW2.out]
   iterate 8 (refine seq_take _ _ rfl (by kernel_rfl) (fun wv hv=>by obtain ⟨hv1,hv2,hv3⟩:=hv; go_simp; try with_reducible rfl) ?_; simp only [Act.put,List.getElem_toArray,List.getElem_cons_zero,List.getElem_cons_succ,List.setIfInBounds_toArray,List.set_cons_zero,List.set_cons_succ])
   refine seq_act _ rfl (fun K hK=>?_)
   go_simp
   refine CI.out.mono ?_
   rintro e w3 ⟨A3,c3,gs3,l3,last,rfl,h1,h2,h3,h4,h5⟩
   have HG3:=Lib.hid h1
   have HC3:=Lib.hid h2
   have HO3:=Lib.hid h3
   have HM3:=Lib.hid h4
   have HM4:=Lib.hid h5
   have b13:=box_gt HB13.out h2
   have b6:Blk w3 w.heap.size 28 #[.slice none 0 0]:=HB6.out.chg h2 fun hs=>by rcases hs.2 with e | e | e <;> simp [elemOf] at e
   have b7:Blk w3 (w.heap.size+1) 29 #[.int .i64 0]:=HB7.out.chg h2 fun hs=>by rcases hs.2 with e | e | e <;> simp [elemOf] at e
   have b8:Blk w3 (w.heap.size+2) 31 #[.nilIface]:=HB8.out.chg h2 fun hs=>by rcases hs.2 with e | e | e <;> simp [elemOf] at e
   have s3:w3.cell? ⟨w1.heap.size,0,none⟩=some (.pointer (some ⟨b,0,none⟩))∧w3.cell? (ad.add 0)=some (.slice A0 8 c0)∧w3.cell? (ad.add 1)=some (.slice A1 8 c1):=⟨b13.cell 0,(HPW.out.same h2 0).trans HQ.out.2.1,(HPW.out.same h2 1).trans HQ.out.2.2⟩
   obtain ⟨W4,hW4⟩:∃ W4,W4=w3.setCell ⟨w.heap.size,0,none⟩ (.slice A3 n c3):=⟨_,rfl⟩
   have hs1:=HS1.out
   have hadl:=HAD.out
   have s4:W4.cell? ⟨w1.heap.size,0,none⟩=some (.pointer (some ⟨b,0,none⟩))∧W4.cell? (ad.add 0)=some (.slice A0 8 c0)∧W4.cell? (ad.add 1)=some (.slice A1 8 c1):=by
    rw [hW4]
    exact ⟨(cell_far _ (by show w.heap.size≠w1.heap.size; omega)).trans s3.1,(cell_far _ (by rw [block_of_add]; show w.heap.size≠ad.block; omega)).trans s3.2.1,(cell_far _ (by rw [block_of_add]; show w.heap.size≠ad.block; omega)).trans s3.2.2⟩
   have d7:Blk W4 (w.heap.size+1) 29 #[.int .i64 0]:=by rw [hW4]; exact b7.far (p:=⟨w.heap.size,0,none⟩) (by show w.heap.size+1≠w.heap.size; omega) _
   have d8:Blk W4 (w.heap.size+2) 31 #[.nilIface]:=by rw [hW4]; exact b8.far (p:=⟨w.heap.size,0,none⟩) (by show w.heap.size+2≠w.heap.size; omega) _
   have d6:Blk W4 w.heap.size 28 #[.slice A3 n c3]:=by rw [hW4]; exact b6.set_ 0 _
   obtain ⟨W5,hW5⟩:∃ W5,W5=W4.setCell ⟨w.heap.size+1,0,none⟩ (.int .i64 (last:Nat)):=⟨_,rfl⟩
   have s5:W5.cell? ⟨w1.heap.size,0,none⟩=some (.pointer (some ⟨b,0,none⟩))∧W5.cell? (ad.add 0)=some (.slice A0 8 c0)∧W5.cell? (ad.add 1)=some (.slice A1 8 c1):=by
    rw [hW5]
    exact ⟨(cell_far _ (by show w.heap.size+1≠w1.heap.size; omega)).trans s4.1,(cell_far _ (by rw [block_of_add]; show w.heap.size+1≠ad.block; omega)).trans s4.2.1,(cell_far _ (by rw [block_of_add]; show w.heap.size+1≠ad.block; omega)).trans s4.2.2⟩
   have e6b:Blk W5 w.heap.size 28 #[.slice A3 n c3]:=by rw [hW5]; exact d6.far (p:=⟨w.heap.size+1,0,none⟩) (by show w.heap.size≠w.heap.size+1; omega) _
   have e7b:Blk W5 (w.heap.size+1) 29 #[.int .i64 (last:Nat)]:=by rw [hW5]; exact d7.set_ 0 _
   have e8b:Blk W5 (w.heap.size+2) 31 #[.nilIface]:=by rw [hW5]; exact d8.far (p:=⟨w.heap.size+1,0,none⟩) (by show w.heap.size+2≠w.heap.size+1; omega) _
   have g5:GA W5 B b gs3:=by rw [hW5,hW4]; exact (h1.setBlk b6 ⟨by decide,by decide⟩ _).setBlk (show Blk (w3.setCell ⟨w.heap.size,0,none⟩ (.slice A3 n c3)) _ _ _ by rw [← hW4]; exact d7) ⟨by decide,by decide⟩ _
   have o5:W5.ownsRow W2.heap.size 29 1 (.slice A3 n c3) n (natVals l3):=by
    have hbk:∀ g',(Value.slice A3 n c3).ownBlock=some g'→w.heap.size+3≤g':=fun g' e=>by have:=(h3.lt g' e).1; have:=HBW2.out.size; have:=HB8.out.lt; omega
    rw [hW5,hW4]
    exact own_far (own_far h3 _ (fun e=>by have:=hbk _ e; omega)) _ (fun e=>by have:=hbk _ e; omega)
   have c5w:Chg (GT B) w W5:=by
    rw [hW5,hW4]
    exact (((Chg.of_new HBW2.out).trans h2).setCell (.inl (Nat.le_refl _)) _).setCell (.inl (by show w.heap.size≤w.heap.size+1; omega)) _
   have HS4:=Lib.hid s4
   have HS5:=Lib.hid s5
   have HE5:=Lib.hid (And.intro e6b (And.intro e7b e8b))
   have HG5:=Lib.hid g5
   have HO5:=Lib.hid o5
   have HC5:=Lib.hid c5w
   have HW4:=Lib.hid hW4
   have HW5:=Lib.hid hW5
   have cc6:=b6.cell 0
   have ff6:=b6.frozen 0
   have cc7:(w3.setCell ⟨w.heap.size,0,none⟩ (.slice A3 n c3)).cell? ⟨w.heap.size+1,0,none⟩=some (.int .i64 0):=by rw [← hW4]; exact d7.cell 0
   have ff7:(w3.setCell ⟨w.heap.size,0,none⟩ (.slice A3 n c3)).frozen? ⟨w.heap.size+1,0,none⟩=false:=by rw [← hW4]; exact d7.frozen 0
   have HS3:=Lib.hid s3
   clear h1 h2 h3 h4 h5 b13 b6 b7 b8 s3 s4 s5 hs1 hadl d6 d7 d8 e6b e7b e8b g5 o5 c5w hW4 hW5
   go_simp
   refine hK _ _ (HS3.out) ?_
   clear hK K
   iterate 3 (refine seq_take _ _ rfl (by kernel_rfl) (fun wv hv=>by go_simp; try with_reducible rfl) ?_; simp only [Act.put,List.getElem_toArray,List.getElem_cons_zero,List.getElem_cons_succ,List.setIfInBounds_toArray,List.set_cons_zero,List.set_cons_succ])
   refine seq_act _ rfl (fun K hK=>?_)
   go_simp
   refine hK _ _ ((by rw [← HW4.out]; exact HS4.out)) ?_
   clear hK K
   try simp only [Act.put,List.getElem_toArray,List.getElem_cons_zero,List.getElem_cons_succ,List.setIfInBounds_toArray,List.set_cons_zero,List.set_cons_succ]
   refine seq_act _ rfl (fun K hK=>?_)
   go_simp
   refine hK _ _ ((by rw [← HW4.out,← HW5.out]; exact HS5.out)) ?_
   clear hK K
   try simp only [Act.put,List.getElem_toArray,List.getElem_cons_zero,List.getElem_cons_succ,List.setIfInBounds_toArray,List.set_cons_zero,List.set_cons_succ]
   refine seq_nil ?_
   rw [← HW4.out,← HW5.out]
   obtain ⟨W6,hW6⟩:∃ W6,W6=W5.drew:=⟨_,rfl⟩
   obtain ⟨e6,e7,e8⟩:=HE5.out
   have e6a:Blk W6 w.heap.size 28 #[.slice A3 n c3]:=by rw [hW6]; exact e6.drew
   have e7a:Blk W6 (w.heap.size+1) 29 #[.int .i64 (last:Nat)]:=by rw [hW6]; exact e7.drew
   have e8a:Blk W6 (w.heap.size+2) 31 #[.nilIface]:=by rw [hW6]; exact e8.drew
   obtain ⟨W7,hW7⟩:∃ W7,W7=W6.setCell ⟨w.heap.size,0,none⟩ (.slice A3 n c3):=⟨_,rfl⟩
   have n01:w.heap.size≠w.heap.size+1:=by omega
   have n02:w.heap.size≠w.heap.size+2:=by omega
   have n12:w.heap.size+1≠w.heap.size+2:=by omega
   have e6c:Blk W7 w.heap.size 28 #[.slice A3 n c3]:=by rw [hW7]; exact e6a.set_ 0 _
   have e7c:Blk W7 (w.heap.size+1) 29 #[.int .i64 (last:Nat)]:=by rw [hW7]; exact e7a.far (p:=⟨w.heap.size,0,none⟩) n01.symm _
   have e8c:Blk W7 (w.heap.size+2) 31 #[.nilIface]:=by rw [hW7]; exact e8a.far (p:=⟨w.heap.size,0,none⟩) n02.symm _
   obtain ⟨W8,hW8⟩:∃ W8,W8=W7.setCell ⟨w.heap.size+1,0,none⟩ (.int .i64 (last:Nat)):=⟨_,rfl⟩
   have e6d:Blk W8 w.heap.size 28 #[.slice A3 n c3]:=by rw [hW8]; exact e6c.far (p:=⟨w.heap.size+1,0,none⟩) n01 _
   have e7d:Blk W8 (w.heap.size+1) 29 #[.int .i64 (last:Nat)]:=by rw [hW8]; exact e7c.set_ 0 _
   have e8d:Blk W8 (w.heap.size+2) 31 #[.nilIface]:=by rw [hW8]; exact e8c.far (p:=⟨w.heap.size+1,0,none⟩) n12.symm _
   obtain ⟨W9,hW9⟩:∃ W9,W9=W8.setCell ⟨w.heap.size+2,0,none⟩ .nilIface:=⟨_,rfl⟩
   have e6e:Blk W9 w.heap.size 28 #[.slice A3 n c3]:=by rw [hW9]; exact e6d.far (p:=⟨w.heap.size+2,0,none⟩) n02 _
   have e7e:Blk W9 (w.heap.size+1) 29 #[.int .i64 (last:Nat)]:=by rw [hW9]; exact e7d.far (p:=⟨w.heap.size+2,0,none⟩) n12 _
   have e8e:Blk W9 (w.heap.size+2) 31 #[.nilIface]:=by rw [hW9]; exact e8d.set_ 0 _
   have g9:GA W9 B b gs3:=by
    have a1:GA W7 B b gs3:=by rw [hW7]; exact (show GA W6 B b gs3 by rw [hW6]; exact HG5.out.drewN 1).setBlk e6a ⟨by decide,by decide⟩ _
    have a2:GA W8 B b gs3:=by rw [hW8]; exact a1.setBlk e7c ⟨by decide,by decide⟩ _
    rw [hW9]; exact a2.setBlk e8d ⟨by decide,by decide⟩ _
   have o9:W9.ownsRow W2.heap.size 29 1 (.slice A3 n c3) n (natVals l3):=by
    have hbk:∀ g',(Value.slice A3 n c3).ownBlock=some g'→w.heap.size+3≤g':=fun g' e=>by have:=(HO3.out.lt g' e).1; have:=HBW2.out.size; have:=HB8.out.lt; omega
    have a0:W6.ownsRow W2.heap.size 29 1 (.slice A3 n c3) n (natVals l3):=by rw [hW6]; exact HO5.out
    rw [hW9,hW8,hW7]
    exact own_far (own_far (own_far a0 _ (fun e=>by have:=hbk _ e; omega)) _ (fun e=>by have:=hbk _ e; omega)) _ (fun e=>by have:=hbk _ e; omega)
   have c9:Chg (GT B) w W9:=by
    rw [hW9,hW8,hW7,hW6]
    exact ((HC5.out.drew.setCell (.inl (Nat.le_refl _)) _).setCell (.inl (by show w.heap.size≤w.heap.size+1; omega)) _).setCell (.inl (by show w.heap.size≤w.heap.size+2; omega)) _
   have x6:=e6a.cell 0
   have x7:=e7a.cell 0
   have HSa:=Lib.hid (And.intro x6 x7)
   have HSb:=Lib.hid (And.intro (e6c.cell 0) (e7c.cell 0))
   have HSc:=Lib.hid (And.intro (e6d.cell 0) (e7d.cell 0))
   have HSd:=Lib.hid (And.intro (e6e.cell 0) (e7e.cell 0))
   have f6:=e6a.frozen 0
   have f7:(W6.setCell ⟨w.heap.size,0,none⟩ (.slice A3 n c3)).frozen? ⟨w.heap.size+1,0,none⟩=false:=by rw [← hW7]; exact e7c.frozen 0
   have x7':(W6.setCell ⟨w.heap.size,0,none⟩ (.slice A3 n c3)).cell? ⟨w.heap.size+1,0,none⟩=some (.int .i64 (last:Nat)):=by rw [← hW7]; exact e7c.cell 0
   have f8:((W6.setCell ⟨w.heap.size,0,none⟩ (.slice A3 n c3)).setCell ⟨w.heap.size+1,0,none⟩ (.int .i64 (last:Nat))).frozen? ⟨w.heap.size+2,0,none⟩=false:=by rw [← hW7,← hW8]; exact e8d.frozen 0
   have x8':((W6.setCell ⟨w.heap.size,0,none⟩ (.slice A3 n c3)).setCell ⟨w.heap.size+1,0,none⟩ (.int .i64 (last:Nat))).cell? ⟨w.heap.size+2,0,none⟩=some .nilIface:=by rw [← hW7,← hW8]; exact e8d.cell 0
   have HE9:=Lib.hid (And.intro e6e (And.intro e7e e8e))
   have HG9:=Lib.hid g9
   have HO9:=Lib.hid o9
   have HC9:=Lib.hid c9
   have HW6:=Lib.hid hW6
   have HW7:=Lib.hid hW7
   have HW8:=Lib.hid hW8
   have HW9:=Lib.hid hW9
   clear e6 e7 e8 e6a e7a e8a e6c e7c e8c e6d e7d e8d e6e e7e e8e g9 o9 c9 hW6 hW7 hW8 hW9 cc6 ff6 cc7 ff7
   go_wp2_with fail
   refine wp_region_seq (S:=fun w'=>w'.cell? ⟨w.heap.size,0,none⟩=some (.slice A3 n c3)∧w'.cell? ⟨w.heap.size+1,0,none⟩=some (.int .i64 (last:Nat))) [(0,false),(1,false),(2,true),(3,true),(4,true)] (by kernel_rfl) (by kernel_rfl) (by kernel_rfl) (by rw [← HW6.out]; exact HSa.out) ?_
   rw [← HW6.out]
   iterate 2 (refine seq_take _ _ rfl (by kernel_rfl) (fun wv hv=>by obtain ⟨hv1,hv2⟩:=hv; go_simp; try with_reducible rfl) ?_; simp only [Act.put,List.getElem_toArray,List.getElem_cons_zero,List.getElem_cons_succ,List.setIfInBounds_toArray,List.set_cons_zero,List.set_cons_succ])
   refine seq_act _ rfl (fun K hK=>?_)
   go_simp
   refine hK _ _ ((by rw [← HW7.out]; exact HSb.out)) ?_
   clear hK K
   try simp only [Act.put,List.getElem_toArray,List.getElem_cons_zero,List.getElem_cons_succ,List.setIfInBounds_toArray,List.set_cons_zero,List.set_cons_succ]
   refine seq_act _ rfl (fun K hK=>?_)
   go_simp
   refine hK _ _ ((by rw [← HW7.out,← HW8.out]; exact HSc.out)) ?_
   clear hK K
   try simp only [Act.put,List.getElem_toArray,List.getElem_cons_zero,List.getElem_cons_succ,List.setIfInBounds_toArray,List.set_cons_zero,List.set_cons_succ]
   refine seq_act _ rfl (fun K hK=>?_)
   go_simp
   refine hK _ _ ((by rw [← HW7.out,← HW8.out,← HW9.out]; exact HSd.out)) ?_
   clear hK K
   try simp only [Act.put,List.getElem_toArray,List.getElem_cons_zero,List.getElem_cons_succ,List.setIfInBounds_toArray,List.set_cons_zero,List.set_cons_succ]
   refine seq_nil ?_
   rw [← HW7.out,← HW8.out,← HW9.out]
   clear x6 x7 f6 f7 x7' f8 x8'
   go_wp2_with fail
   refine leaves_cons (f:=15) (args:=#[.pointer (some ⟨w.heap.size,0,none⟩),.pointer (some ⟨w.heap.size+1,0,none⟩),.pointer (some ⟨w.heap.size+2,0,none⟩)]) (by simp) (by simp [go_sem]) ?_
   refine (of_idle _ _ _ _).mono ?_
   rintro e u' w'' ⟨rfl,rfl,rfl⟩
   have x6:=HE9.out.1.cell 0
   have x7:=HE9.out.2.1.cell 0
   have x8:=HE9.out.2.2.cell 0
   have key:OfP w B b gs k n f g (.returned (.tuple #[.slice A3 n c3,.int .i64 (last:Nat),.nilIface])) w'':=⟨A3,c3,gs3,l3,last,rfl,HG9.out,HC9.out,own_base HO9.out HBW2.out.size,HM3.out,HM4.out⟩
   have HKEY:=Lib.hid key
   clear key
   simp [Leaves,settle,results,Tryz.results7,go_sem,x6,x7,x8]
   exact HKEY.out
end Go.Proofs.YthkhfbofhdfdoaaGreatDoor
namespace Go.Proofs.YthkhfbofhdfdoaaGreatDoor
open Go.RowKit
set_option maxRecDepth 100000 in
set_option maxHeartbeats 4000000 in
theorem shape_ne {w:World} {LB:Nat} (hL:Lvls w LB) (hLB:LB≤w.heap.size) {A:Option Addr} {c n0 n1:Nat} (h:Lens w A [n0,n1]) {p1:Bool} (hp1:((n0:Int) == ((1:Nat):Int))=p1) {p8:Bool} (hp8:((n0:Int) == ((8:Nat):Int))=p8) {q:Bool} (hq:((n0:Int) == (n1:Int))=q) :
  Calls Tryz.prog 13 #[.string ⟨#[60,62]⟩,.slice A 2 c] w (ShP w ((p1||p8)&&q)):=by
 obtain ⟨ad,rfl,hcell⟩:=h
 obtain ⟨A0,k0,h0⟩:=hcell 0 n0 rfl
 obtain ⟨A1,k1,h1⟩:=hcell 1 n1 rfl
 have hbw:Below w.heap.size w (w.alloc (.cells #[.slice (some ad) 2 c] 36)):=(Below.refl _ _).alloc (Nat.le_refl _) _
 obtain ⟨W1,hW1⟩:∃ W1,W1=(w.alloc (.cells #[.slice (some ad) 2 c] 36)).alloc (.cells #[.func (.func 31) #[] #[.pointer (some ⟨w.heap.size,0,none⟩)]] 82):=⟨_,rfl⟩
 have hb1':Below w.heap.size w W1:=by rw [hW1]; exact hbw.alloc (by simp) _
 have hbx:W1.cell? ⟨w.heap.size,0,none⟩=some (.slice (some ad) 2 c):=by rw [hW1]; exact ((Blk.new w _ _).alloc _).cell 0
 have cm:W1.cell? ⟨w.heap.size+1,0,none⟩=some (.func (.func 31) #[] #[.pointer (some ⟨w.heap.size,0,none⟩)]):=by
  rw [hW1]
  simp
 have C0:=Lib.hid (show ∀ j,Calls Tryz.prog 32 #[.int .i64 0,.pointer (some ⟨w.heap.size+1,0,none⟩)] (W1.drewN j) (fun e w'=>e = .returned (.bool (p1||p8))∧W1.drewN j=w') from fun j=>some_any (w:=W1.drewN j) (i:=0) cm hbx (by omega) (by omega) ((hb1'.cell (World.block_lt_of_cell? _ _ h0)).trans h0) hp1 hp8)
 have HC30:=Lib.hid hbx
 have HC00:=Lib.hid ((hb1'.cell (World.block_lt_of_cell? _ _ h0)).trans h0)
 have HC10:=Lib.hid ((hb1'.cell (World.block_lt_of_cell? _ _ h1)).trans h1)
 have HEQ:=Lib.hid hq
 have HW1:=Lib.hid hW1
 have HB1:=Lib.hid hb1'
 have HCM:=Lib.hid cm
 have CA:=Lib.hid (arity_any (hL.below hbw hLB) ⟨#[60,62]⟩)
 have HNB:=Lib.hid (show arN ⟨#[60,62]⟩=2∧arB ⟨#[60,62]⟩=true from ⟨by decide +kernel,by decide +kernel⟩)
 clear hL hcell hbw hbx hW1 hb1' cm h0 h1 hp1 hp8 hq
 have hmf:∀ (fn:Fn) (first cap:Array Value) (w:World),(Instr.makeFunc fn first cap).run Tryz.prog w = .ok (.func fn first cap) w:=fun _ _ _ _=>rfl
 go_enter Tryz.func13,Tryz.ntmps13
 go_wp2_with fail
 refine CA.out.mono ?_
 rintro e w' ⟨rfl,rfl⟩
 rw [HNB.out.1,HNB.out.2]
 go_upto_region 6 with fail
 rw [← HW1.out]
 have cm:=HCM.out
 obtain ⟨sv,hsv⟩:∃ sv,(p1||p8)=sv:=⟨_,rfl⟩
 rw [hsv] at C0
 have HSV:=Lib.hid hsv
 clear hsv
 cases sv with
 | false=>
  have c30:=HC30.out
  go_wp2_with fail
  go_quiet ((first | (go_at_call 32; exact quiet_left (C0.out _))))
  all_goals
   go_wp2_with fail
   go_ret
   exact ⟨by rw [HSV.out]; rfl,below_drewN HB1.out _⟩
 | true=>
  have c30:=HC30.out
  have c00:W1.cell? ad=some (.slice A0 n0 k0):=by have h:=HC00.out; rwa [show ad.add 0=ad by simp [Addr.add]] at h
  have c10:W1.cell? ⟨ad.block,ad.off+1,none⟩=some (.slice A1 n1 k1):=by have h:=HC10.out; rwa [show ad.add 1=⟨ad.block,ad.off+1,none⟩ by simp [Addr.add]] at h
  have he:=HEQ.out
  go_wp2_with fail
  go_quiet ((first | (go_at_call 32; exact quiet_left (C0.out _))))
  all_goals
   go_wp2_with fail
   go_ret
   exact ⟨by rw [HSV.out]; rfl,below_drewN HB1.out _⟩
end Go.Proofs.YthkhfbofhdfdoaaGreatDoor
namespace Go.Proofs.YthkhfbofhdfdoaaGreatDoor
open Go.RowKit
end Go.Proofs.YthkhfbofhdfdoaaGreatDoor
namespace Go.Proofs.YthkhfbofhdfdoaaGreatDoor
open Go.RowKit
end Go.Proofs.YthkhfbofhdfdoaaGreatDoor
namespace Go.Proofs.YthkhfbofhdfdoaaGreatDoor
open Go.RowKit
structure T3 (w3 W7 W8 W9:World) (o:Nat) (v6 v7 v8 r l:Value):Prop where
 c6:w3.cell? ⟨o,0,none⟩=some v6
 f6:w3.frozen? ⟨o,0,none⟩=false
 c7:(w3.setCell ⟨o,0,none⟩ r).cell? ⟨o+1,0,none⟩=some v7
 f7:(w3.setCell ⟨o,0,none⟩ r).frozen? ⟨o+1,0,none⟩=false
 c8:((w3.setCell ⟨o,0,none⟩ r).setCell ⟨o+1,0,none⟩ l).cell? ⟨o+2,0,none⟩=some v8
 f8:((w3.setCell ⟨o,0,none⟩ r).setCell ⟨o+1,0,none⟩ l).frozen? ⟨o+2,0,none⟩=false
 e6:Blk W9 o 28 #[r]
 e7:Blk W9 (o+1) 29 #[l]
 e8:Blk W9 (o+2) 31 #[.nilIface]
 k7:∀ p:Addr,p.block<o∨o+3≤p.block→W7.cell? p=w3.cell? p
 k8:∀ p:Addr,p.block<o∨o+3≤p.block→W8.cell? p=w3.cell? p
 k9:∀ p:Addr,p.block<o∨o+3≤p.block→W9.cell? p=w3.cell? p
 ga:∀ B b gs,GA w3 B b gs→GA W9 B b gs
 ch:∀ B w,Chg (GT B) w w3→w.heap.size≤o→Chg (GT B) w W9
 ow:∀ base n A c xs,w3.ownsRow base 29 1 (.slice A n c) n xs→o+3≤base→W9.ownsRow base 29 1 (.slice A n c) n xs
theorem tail3 {w3 W7 W8 W9:World} {o:Nat} {v6 v7 v8 r l:Value} (b6:Blk w3 o 28 #[v6]) (b7:Blk w3 (o+1) 29 #[v7]) (b8:Blk w3 (o+2) 31 #[v8])
  (h7:W7=w3.setCell ⟨o,0,none⟩ r) (h8:W8=W7.setCell ⟨o+1,0,none⟩ l) (h9:W9=W8.setCell ⟨o+2,0,none⟩ .nilIface):T3 w3 W7 W8 W9 o v6 v7 v8 r l:=by
 subst h7 h8 h9
 have n01:o≠o+1:=by omega
 have n02:o≠o+2:=by omega
 have n12:o+1≠o+2:=by omega
 have a6:=b6.set_ 0 r
 have a7:=b7.far (p:=⟨o,0,none⟩) n01.symm r
 have a8:=b8.far (p:=⟨o,0,none⟩) n02.symm r
 have d6:=a6.far (p:=⟨o+1,0,none⟩) n01 l
 have d7:=a7.set_ 0 l
 have d8:=a8.far (p:=⟨o+1,0,none⟩) n12.symm l
 have e6:=d6.far (p:=⟨o+2,0,none⟩) n02 .nilIface
 have e7:=d7.far (p:=⟨o+2,0,none⟩) n12 .nilIface
 have e8:=d8.set_ 0 .nilIface
 have k7:∀ p:Addr,p.block<o∨o+3≤p.block→(w3.setCell ⟨o,0,none⟩ r).cell? p=w3.cell? p:=fun p hp=>cell_far _ (by show o≠p.block; omega)
 have k8:∀ p:Addr,p.block<o∨o+3≤p.block→((w3.setCell ⟨o,0,none⟩ r).setCell ⟨o+1,0,none⟩ l).cell? p=w3.cell? p:=fun p hp=>(cell_far _ (by show o+1≠p.block; omega)).trans (k7 p hp)
 exact
  {c6:=b6.cell 0,f6:=b6.frozen 0,c7:=a7.cell 0,f7:=a7.frozen 0,c8:=d8.cell 0,f8:=d8.frozen 0,e6:=e6,e7:=e7,e8:=e8,k7:=k7,k8:=k8
   k9:=fun p hp=>(cell_far _ (by show o+2≠p.block; omega)).trans (k8 p hp)
   ga:=fun B b gs h=>((h.setBlk b6 ⟨by decide,by decide⟩ _).setBlk a7 ⟨by decide,by decide⟩ _).setBlk d8 ⟨by decide,by decide⟩ _
   ch:=fun B w h hs=>((h.setCell (.inl hs) _).setCell (.inl (Nat.le_trans hs (by show o≤o+1; omega))) _).setCell (.inl (Nat.le_trans hs (by show o≤o+2; omega))) _
   ow:=fun base n A c xs h hb=>by
    have hbk:∀ g',(Value.slice A n c).ownBlock=some g'→o+3≤g':=fun g' e=>by have:=(h.lt g' e).1; omega
    exact own_far (own_far (own_far h _ (fun e=>by have:=hbk _ e; omega)) _ (fun e=>by have:=hbk _ e; omega)) _ (fun e=>by have:=hbk _ e; omega) }
theorem of_key {w w3 W7 W8 W9:World} {B b k n base c:Nat} {gs gs':List Gm.Gate} {A:Option Addr} {outs:List Nat} {v6 v7 v8:Value} {f:List Gm.Gate×List Nat}
  (ht:T3 w3 W7 W8 W9 w.heap.size v6 v7 v8 (.slice A n c) (.int .i64 0)) (hg:GA w3 B b gs') (hc:Chg (GT B) w w3) (ho:w3.ownsRow base 29 1 (.slice A n c) n (natVals outs)) (hb:w.heap.size+3≤base) (hm:MadeW gs gs' k outs f) :
  OfP w B b gs k n f (f.1,0) (.returned (.tuple #[.slice A n c,.int .i64 0,.nilIface])) W9:=
 ⟨A,c,gs',outs,0,rfl,ht.ga _ _ _ hg,ht.ch _ _ hc (Nat.le_refl _),own_base (ht.ow _ _ _ _ _ ho hb) (by omega),hm,madeL_zero hm⟩
theorem MadeL.one {gs gs':List Gm.Gate} {k out:Nat} {f:List Gm.Gate×Nat} (h:MadeL gs gs' k out f):MadeW gs gs' k [out] (f.1,[f.2]):=
 ⟨h.ext,fun x hx=>by obtain rfl:=List.mem_singleton.1 hx; exact h.has,h.len,by rw [← h.eq]⟩
theorem MadeL.not_ {gs gs':List Gm.Gate} {k out:Nat} {f:List Gm.Gate×Nat} (h:MadeL gs gs' k out f):MadeL gs gs' k (Gm.notL out) (f.1,Gm.notL f.2):=
 ⟨h.ext,Gm.has_not h.has,h.len,by rw [← h.eq]⟩
def PartOk (gs:List Gm.Gate) (zs:List Nat):Prop:=AllHas gs zs∧1≤zs.length∧zs.length≤8
theorem PartOk.one {gs:List Gm.Gate} {x:Nat} (h:Gm.has gs x):PartOk gs [x]:=⟨fun y hy=>by obtain rfl:=List.mem_singleton.1 hy; exact h,by simp,by simp⟩
theorem parts_ok2 {gs:List Gm.Gate} {a b:List Nat} (ha:PartOk gs a) (hb:PartOk gs b):∀ zs∈[a,b],PartOk gs zs:=by simpa using ⟨ha,hb⟩
end Go.Proofs.YthkhfbofhdfdoaaGreatDoor
namespace Go.Proofs.YthkhfbofhdfdoaaGreatDoor
open Go.RowKit
attribute [local irreducible] wpSeq wpStill
set_option maxRecDepth 100000 in
set_option maxHeartbeats 4000000 in
theorem of_ne {w:World} {B b LB:Nat} {gs:List Gm.Gate} (h:GA w B b gs) (hL:Lvls w LB) (hLB:LB≤w.heap.size) {A:Option Addr} {c:Nat} {n:Nat} {xs ys:List Nat} (hxs:xs.length=n) (hys:ys.length=n) (hn18:n=1∨n=8) (gx:AllHas gs xs) (gy:AllHas gs ys) (hp:PartsAt w B A [xs,ys]) (hn:gs.length≤90000) :
  Calls Tryz.prog 7 #[.pointer (some ⟨b,0,none⟩),.string ⟨#[60,62]⟩,.slice A 2 c] w (OfP w B b gs (4*n) (1) ((sameZ gs xs ys).1,[Gm.notL (sameZ gs xs ys).2]) ((sameZ gs xs ys).1,0)):=by
 obtain ⟨ad,hA,hadlt⟩:∃ ad,A=some ad∧ad.block<w.heap.size:=by
  obtain ⟨ad,o,hA,ho,_,_⟩:=hp; exact ⟨ad,hA,lt_of_heap ho⟩
 subst hA
 have HAD:=Lib.hid hadlt
 have HOK:=Lib.hid (show ∀ zs∈[xs,ys],PartOk gs zs from parts_ok2 ⟨gx,by omega,by omega⟩ ⟨gy,by omega,by omega⟩)
 obtain ⟨WA,hWA⟩:∃ WA,WA=((w.alloc (.cells #[.slice none 0 0] 28)).alloc (.cells #[.int .i64 0] 29)).alloc (.cells #[.nilIface] 31):=⟨_,rfl⟩
 have hba:Below w.heap.size w WA:=by rw [hWA]; exact (((Below.refl _ _).alloc (Nat.le_refl _) _).alloc (by simp) _).alloc (by simp; omega) _
 have b6:Blk WA w.heap.size 28 #[.slice none 0 0]:=by rw [hWA]; exact ((Blk.new w _ _).alloc _).alloc _
 have b7:Blk WA (w.heap.size+1) 29 #[.int .i64 0]:=by
  rw [hWA]; have:=(Blk.new (w.alloc (.cells #[.slice none 0 0] 28)) 29 #[.int .i64 0]).alloc (.cells #[.nilIface] 31); simpa using this
 have b8:Blk WA (w.heap.size+2) 31 #[.nilIface]:=by
  rw [hWA]; have:=Blk.new ((w.alloc (.cells #[.slice none 0 0] 28)).alloc (.cells #[.int .i64 0] 29)) 31 #[.nilIface]; simpa using this
 have hsa:WA.heap.size=w.heap.size+3:=by rw [hWA]; simp
 have CS:=Lib.hid (show Calls Tryz.prog 13 #[.string ⟨#[60,62]⟩,.slice (some ad) 2 c] WA (ShP WA true) from by
  have hl:Lens WA (some ad) [n,n]:=by have hq:=(hp.new hba).lens; simpa [hxs,hys] using hq
  have hs:=shape_ne (c:=c) (hL.below hba hLB) (by omega) hl rfl rfl rfl
  rwa [show ((((n:Int) == ((1:Nat):Int))||((n:Int) == ((8:Nat):Int)))&&((n:Int) == (n:Int)))=true from by rcases hn18 with rfl | rfl <;> rfl] at hs)
 have HPW:=Lib.hid hp
 have HPA:=Lib.hid (hp.new hba)
 have HGA:=Lib.hid (h.new hba)
 have HBA:=Lib.hid hba
 have HB678:=Lib.hid (And.intro b6 (And.intro b7 b8))
 have HWA:=Lib.hid hWA
 have HSA:=Lib.hid hsa
 have HNL:=Lib.hid hn
 clear h hL hp hba b6 b7 b8 hWA hsa hn hadlt
 have hmf:∀ (fn:Fn) (first cap:Array Value) (w:World),(Instr.makeFunc fn first cap).run Tryz.prog w = .ok (.func fn first cap) w:=fun _ _ _ _=>rfl
 go_enter_defers Tryz.func7,Tryz.ntmps7
 go_wp2_with fail
 rw [← HWA.out]
 refine CS.out.mono ?_
 rintro e w1 ⟨rfl,hb⟩
 have HP1:=Lib.hid (HPA.out.new hb)
 have HG1:=Lib.hid (HGA.out.new hb)
 have HB1:=Lib.hid hb
 obtain ⟨ad',o,hA',_,_,hcell⟩:=HPA.out.new hb
 obtain rfl:ad=ad':=by injection hA'
 have HCL:=Lib.hid hcell
 clear hb hcell hA'
 go_wp2_with fail
 go_loop [21] (fun iv=>LcR 2 iv) (fun iv=>2-(intOf iv).toNat)
 case atStart=>exact ⟨0,by omega,rfl⟩
 case round=>
  obtain ⟨k0,hk,rfl⟩:=hrel
  by_cases hk2:k0<2
  ·obtain ⟨zs,hz⟩:∃ zs,[xs,ys][k0]? = some zs:=⟨_,List.getElem?_eq_getElem (by simpa using hk2)⟩
   have hzh:=HOK.out zs (List.mem_of_getElem? hz)
   obtain ⟨Ai,ci,hci,hh⟩:=HCL.out k0 zs hz
   obtain ⟨adz,rfl⟩:=hh.form (by have:=hzh.2.1; omega)
   have HH:=Lib.hid hh
   have HZ:=Lib.hid hzh
   obtain ⟨m,hm⟩:∃ m,zs.length=m:=⟨_,rfl⟩
   have hm1:1≤m∧m≤8:=by rw [← hm]; exact hzh.2
   obtain ⟨hm1,hm8⟩:=hm1
   rw [hm] at hci
   have HM:=Lib.hid hm
   clear hz hh hzh hm
   go_wp2_with fail
   go_loop [27] (fun jv=>LcR m jv) (fun jv=>m-(intOf jv).toNat)
   case atStart=>exact ⟨0,by omega,rfl⟩
   try case atStart=>exact ⟨0,by omega,rfl⟩
   case round=>
    obtain ⟨j,hj,rfl⟩:=hrel
    by_cases hj8:j<m
    ·obtain ⟨x,hx⟩:∃ x,zs[j]? = some x:=⟨_,List.getElem?_eq_getElem (by rw [HM.out]; exact hj8)⟩
     have cx:=HH.out.at_ hx
     have CX:=Lib.hid (has_lit HG1.out (HZ.out.1 x (List.mem_of_getElem? hx)) (Nat.le_trans HNL.out (by omega)))
     clear hx
     go_wp2_with fail
     refine CX.out.mono ?_
     rintro e w' ⟨rfl,rfl⟩
     go_wp2_with fail
     go_round
     case rel=>exact ⟨j+1,by omega,by go_num⟩
     case measure=>simp [intOf]; omega
    ·obtain rfl:j=m:=by omega
     go_wp2_with fail
     go_round
     case rel=>exact ⟨k0+1,by omega,by go_num⟩
     case measure=>simp [intOf]; omega
  ·obtain rfl:k0=2:=by omega
   obtain ⟨A0,c0,h0,hh0⟩:=HCL.out 0 (xs) rfl
   rw [hxs] at h0 hh0
   obtain ⟨A1,c1,h1,hh1⟩:=HCL.out 1 (ys) rfl
   rw [hys] at h1 hh1
   obtain ⟨b6,b7,b8⟩:=HB678.out
   have b6':=b6.below HB1.out (by rw [HSA.out]; omega)
   have b7':=b7.below HB1.out (by rw [HSA.out]; omega)
   have b8':=b8.below HB1.out (by rw [HSA.out]; omega)
   obtain ⟨W2,hW2⟩:∃ W2,W2=(w1.alloc (.cells #[.pointer (some ⟨b,0,none⟩)] 60)).drew:=⟨_,rfl⟩
   have b13:Blk W2 w1.heap.size 60 #[.pointer (some ⟨b,0,none⟩)]:=by rw [hW2]; exact (Blk.new w1 _ _).drew
   have hb12:Below w1.heap.size w1 W2:=by rw [hW2]; exact below_drewN ((Below.refl _ _).alloc (Nat.le_refl _) _) 1
   have hs1:=HB1.out.size
   have hsa:=HSA.out
   have HBW2:=Lib.hid (show Below w.heap.size w W2 from HBA.out.trans ((HB1.out.trans (hb12.mono hs1)).mono (by omega)))
   have hbw2:=HBW2.out
   have HB678:=Lib.hid (And.intro (b6'.below hb12 b6'.lt) (And.intro (b7'.below hb12 b7'.lt) (b8'.below hb12 b8'.lt)))
   have hpw:=HP1.out.new hb12
   have HS:=Lib.hid (show ∀ w':World,Chg (GT B) W2 w'→w'.cell? ⟨w1.heap.size,0,none⟩=some (.pointer (some ⟨b,0,none⟩))∧w'.cell? ad=some (.slice A0 n c0)∧w'.cell? ⟨ad.block,ad.off+1,none⟩=some (.slice A1 n c1) from fun w' hc=>⟨(box_gt b13 hc).cell 0,(hpw.same hc 0).trans ((hb12.cell (World.block_lt_of_cell? _ _ h0)).trans h0),(hpw.same hc 1).trans ((hb12.cell (World.block_lt_of_cell? _ _ h1)).trans h1)⟩)
   have HKS:=Lib.hid (show ∀ w' w'':World,(∀ p:Addr,p.block<w.heap.size∨w.heap.size+3≤p.block→w''.cell? p=w'.cell? p)→(w'.cell? ⟨w1.heap.size,0,none⟩=some (.pointer (some ⟨b,0,none⟩))∧w'.cell? ad=some (.slice A0 n c0)∧w'.cell? ⟨ad.block,ad.off+1,none⟩=some (.slice A1 n c1))→w''.cell? ⟨w1.heap.size,0,none⟩=some (.pointer (some ⟨b,0,none⟩))∧w''.cell? ad=some (.slice A0 n c0)∧w''.cell? ⟨ad.block,ad.off+1,none⟩=some (.slice A1 n c1) from fun w' w'' hk h=>by
    obtain ⟨q0,q1,q2⟩:=h
    exact ⟨(hk _ (.inr (by show w.heap.size+3≤w1.heap.size; omega))).trans q0,(hk _ (.inl (by show ad.block<w.heap.size; exact HAD.out))).trans q1,(hk _ (.inl (by show ad.block<w.heap.size; exact HAD.out))).trans q2⟩)
   have hg2:=HG1.out.new hb12
   have hh02:=hh0.new hb12
   have hh12:=hh1.new hb12
   have CI:=Lib.hid (same_any (c1:=c0) (c2:=c1) hg2 hh02 hh12 gx gy (by have:=HNL.out; omega) (by omega))
   have HBX:=Lib.hid b13
   have HG2:=Lib.hid hg2
   have HS1:=Lib.hid (And.intro hs1 hsa)
   have HW2:=Lib.hid hW2
   clear hpw hg2 hs1 hsa b6 b7 b8 b6' b7' b8' hW2 b13 hb12 hbw2 h0 hh0 hh02 h1 hh1 hh12
   go_wp2_with fail
   refine wp_region_seq (S:=fun w'=>w'.cell? ⟨w1.heap.size,0,none⟩=some (.pointer (some ⟨b,0,none⟩))∧w'.cell? ad=some (.slice A0 n c0)∧w'.cell? ⟨ad.block,ad.off+1,none⟩=some (.slice A1 n c1)) [(0,false),(1,false),(2,false),(3,false),(4,false),(5,false),(6,false),(7,true),(8,true),(9,true),(10,true),(11,true),(12,true)] (by kernel_rfl) (by kernel_rfl) (by kernel_rfl) (by rw [← HW2.out]; exact HS.out _ (Chg.refl _ _)) ?_
   rw [← HW2.out]
   iterate 7 (refine seq_take _ _ rfl (by kernel_rfl) (fun wv hv=>by obtain ⟨hv1,hv2,hv3⟩:=hv; go_simp; try with_reducible rfl) ?_; simp only [Act.put,List.getElem_toArray,List.getElem_cons_zero,List.getElem_cons_succ,List.setIfInBounds_toArray,List.set_cons_zero,List.set_cons_succ])
   refine seq_act _ rfl (fun K hK=>?_)
   go_simp
   refine CI.out.mono ?_
   rintro e w3 ⟨gs3,l3,rfl,h1,h2,h4⟩
   have HC3:=Lib.hid h2
   have HS3:=Lib.hid (HS.out _ h2)
   go_simp
   refine hK _ _ (HS3.out) ?_
   clear hK K
   have hl9:l3≤1000000:=by have:=h1.len; have:=h4.has; unfold Gm.has at this; omega
   have CN:=Lib.hid (not_any l3 w3 hl9)
   clear hl9
   refine seq_act _ rfl (fun K hK=>?_)
   go_simp
   refine CN.out.mono ?_
   rintro e w' ⟨rfl,rfl⟩
   go_simp
   refine hK _ _ (HS3.out) ?_
   clear hK K
   obtain ⟨W4,hW4⟩:∃ W4,W4=w3.alloc (.cells #[.int .i64 (Gm.notL l3:Nat)] 29):=⟨_,rfl⟩
   have HGX:=Lib.hid (show GA W4 B b gs3 by rw [hW4]; exact h1.alloc1 _)
   have h24:Chg (GT B) W2 W4:=by rw [hW4]; exact h2.alloc _
   have HCX:=Lib.hid ((Chg.of_new (S:=GT B) HBW2.out).trans h24)
   have HOX:=Lib.hid (show W4.ownsRow w3.heap.size 29 1 (.slice (some ⟨w3.heap.size,0,none⟩) 1 1) 1 (natVals [Gm.notL l3]) by rw [hW4]; exact own_one w3 _)
   have HM:=Lib.hid (h4.not_.one)
   have HSX:=Lib.hid (HS.out _ h24)
   have HOB:=Lib.hid (show w.heap.size+3≤w3.heap.size from by have:=HB678.out.2.2.lt; have:=h2.size; omega)
   have HB3:=Lib.hid (show Blk W4 w.heap.size 28 #[.slice none 0 0]∧Blk W4 (w.heap.size+1) 29 #[.int .i64 0]∧Blk W4 (w.heap.size+2) 31 #[.nilIface] from
    ⟨HB678.out.1.chg h24 fun hs=>by rcases hs.2 with e | e | e <;> simp [elemOf] at e,HB678.out.2.1.chg h24 fun hs=>by rcases hs.2 with e | e | e <;> simp [elemOf] at e,HB678.out.2.2.chg h24 fun hs=>by rcases hs.2 with e | e | e <;> simp [elemOf] at e⟩)
   have HW4:=Lib.hid hW4
   clear h1 h2 h4 h24 hW4
   refine seq_act _ rfl (fun K hK=>?_)
   go_simp
   go_simp
   refine hK _ _ ((by rw [← HW4.out]; exact HSX.out)) ?_
   clear hK K
   rw [← HW4.out]
   obtain ⟨W7,hW7⟩:∃ W7,W7=W4.setCell ⟨w.heap.size,0,none⟩ (.slice (some ⟨w3.heap.size,0,none⟩) 1 1):=⟨_,rfl⟩
   obtain ⟨W8,hW8⟩:∃ W8,W8=W7.setCell ⟨w.heap.size+1,0,none⟩ (.int .i64 0):=⟨_,rfl⟩
   obtain ⟨W9,hW9⟩:∃ W9,W9=W8.setCell ⟨w.heap.size+2,0,none⟩ .nilIface:=⟨_,rfl⟩
   have ht:=tail3 HB3.out.1 HB3.out.2.1 HB3.out.2.2 hW7 hW8 hW9
   have HT:=Lib.hid ht
   have cc6:=ht.c6
   have ff6:=ht.f6
   have cc7:=ht.c7
   have ff7:=ht.f7
   have cc8:=ht.c8
   have ff8:=ht.f8
   have HW7:=Lib.hid hW7
   have HW8:=Lib.hid hW8
   have HW9:=Lib.hid hW9
   clear hW7 hW8 hW9 ht
   refine seq_act _ rfl (fun K hK=>?_)
   go_simp
   refine hK _ _ ((by rw [← HW7.out]; exact HKS.out _ _ HT.out.k7 HSX.out)) ?_
   clear hK K
   try simp only [Act.put,List.getElem_toArray,List.getElem_cons_zero,List.getElem_cons_succ,List.setIfInBounds_toArray,List.set_cons_zero,List.set_cons_succ]
   refine seq_act _ rfl (fun K hK=>?_)
   go_simp
   refine hK _ _ ((by rw [← HW7.out,← HW8.out]; exact HKS.out _ _ HT.out.k8 HSX.out)) ?_
   clear hK K
   try simp only [Act.put,List.getElem_toArray,List.getElem_cons_zero,List.getElem_cons_succ,List.setIfInBounds_toArray,List.set_cons_zero,List.set_cons_succ]
   refine seq_act _ rfl (fun K hK=>?_)
   go_simp
   refine hK _ _ ((by rw [← HW7.out,← HW8.out,← HW9.out]; exact HKS.out _ _ HT.out.k9 HSX.out)) ?_
   clear hK K
   try simp only [Act.put,List.getElem_toArray,List.getElem_cons_zero,List.getElem_cons_succ,List.setIfInBounds_toArray,List.set_cons_zero,List.set_cons_succ]
   refine seq_nil ?_
   rw [← HW7.out,← HW8.out,← HW9.out]
   clear cc6 ff6 cc7 ff7 cc8 ff8
   go_wp2_with fail
   refine leaves_cons (f:=15) (args:=#[.pointer (some ⟨w.heap.size,0,none⟩),.pointer (some ⟨w.heap.size+1,0,none⟩),.pointer (some ⟨w.heap.size+2,0,none⟩)]) (by simp) (by simp [go_sem]) ?_
   refine (of_idle _ _ _ _).mono ?_
   rintro e u' w'' ⟨rfl,rfl,rfl⟩
   have x6:=HT.out.e6.cell 0
   have x7:=HT.out.e7.cell 0
   have x8:=HT.out.e8.cell 0
   have HKEY:=Lib.hid (of_key HT.out HGX.out HCX.out HOX.out (by have:=HBW2.out.size; have:=HB3.out.2.2.lt; have:=HOB.out; omega) HM.out)
   simp [Leaves,settle,results,Tryz.results7,go_sem,x6,x7,x8]
   exact HKEY.out
end Go.Proofs.YthkhfbofhdfdoaaGreatDoor
