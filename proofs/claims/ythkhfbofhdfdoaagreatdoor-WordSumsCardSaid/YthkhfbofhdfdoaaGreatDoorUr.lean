/- Plain laws and walks for the law WordSums; no condition. -/
import Derived.Test.YthkhfbofhdfdoaaGreatDoorUs
import Derived.Test.YthkhfbofhdfdoaaGreatDoorSh
import Derived.Test.YthkhfbofhdfdoaaGreatDoorNz
import Derived.Test.YthkhfbofhdfdoaaGreatDoorAh
import Derived.Test.YthkhfbofhdfdoaaGreatDoorBa
namespace Go.Proofs.YthkhfbofhdfdoaaGreatDoor
open Go.RowKit Go.Sort
section
variable {w w':World} {tag tag':Nat→Tag} {t:Tag} {base g c:Nat} {e:TypeId} {zs zs':List Int}
theorem put_heap (enc:Int→Value) (w:World) (g off k:Nat) (d:Array Int):(putRow enc w g off d).heap[k]? = if g=k then (w.heap[k]?).map (onCells (putCells enc off d)) else w.heap[k]? := by
 unfold putRow mapBlock
 simp only [Array.getElem?_modify]
theorem cg_put (d:Array Int) (ht:tag g=t):Cg tag (fun s=>s=t) w (putRow (Value.int .i64) w g 0 d):=
 ⟨rfl,rfl,rfl,by simp,fun k o ho hn=>by
  rw [put_heap,if_neg]
  ·exact ho
  ·rintro rfl; exact hn ht⟩
theorem below_grow (w:World) (os:Array Obj):Below w.heap.size w (grow w os):=
 ⟨rfl,rfl,rfl,by simp,fun k hk=>by show (w.heap++os)[k]? = _; rw [Array.getElem?_append_left hk]⟩
theorem Row.holds (h:Row w tag t base e (.slice (some ⟨g,0,none⟩) zs.length c) (litVals zs)):Holds (Value.int .i64) w g 0 zs.toArray:=fun j hj=>by
 have h':Row w tag t base e (.slice (some ⟨g,0,none⟩) (litVals zs).length c) (litVals zs):=by rw [litVals_len]; exact h
 have hj:j<zs.length:=by simpa using hj
 rw [Nat.zero_add]
 refine ⟨?_,Row.frozen h' j⟩
 rw [Row.cell h' (lit_at (x:=zs[j]) (List.getElem?_eq_getElem hj))]
 simp [hj]
theorem Row.put_ (h:Row w tag t base e (.slice (some ⟨g,0,none⟩) zs.length c) (litVals zs)) (hl:zs'.length=zs.length) :
  Row (putRow (Value.int .i64) w g 0 zs'.toArray) tag t base e (.slice (some ⟨g,0,none⟩) zs.length c) (litVals zs')∧Cg tag (fun s=>s=t) w (putRow (Value.int .i64) w g 0 zs'.toArray):=by
 have hg:tag g=t:=h.tg g rfl
 refine ⟨⟨⟨by rw [Nat.mul_one],?_⟩,h.tg⟩,cg_put _ hg⟩
 rw [litVals_len,hl]
 have ho:=h.own.2
 rw [litVals_len] at ho
 rcases ho with ⟨e0,_⟩ | ⟨g',c',cur,hv,hb,hh,hle,hm,hs,ht⟩
 ·injection e0 with e0; cases e0
 ·injection hv with e1 _ e3
  injection e1 with e1
  injection e1 with e1 _
  subst e1; subst e3
  refine .inr ⟨g,c,putCells (Value.int .i64) 0 zs'.toArray cur,rfl,hb,?_,hle,hm,by unfold putCells; simpa using hs,?_⟩
  ·rw [put_heap,if_pos rfl,hh]; rfl
  ·apply List.ext_getElem?
   intro j
   rw [List.getElem?_take]
   unfold putCells
   simp only [Nat.mul_one,Array.getElem?_toList,Array.getElem?_mapIdx]
   by_cases hj:j<zs.length
   ·rw [if_pos hj]
    have hj':j<zs'.length:=by omega
    have hc:j<cur.size:=by omega
    rw [Array.getElem?_eq_getElem hc,Option.map_some,if_pos ⟨Nat.zero_le _,by simpa using hj'⟩]
    rw [lit_at (List.getElem?_eq_getElem hj')]
    simp [hj']
   ·rw [if_neg hj,List.getElem?_eq_none (by rw [litVals_len]; omega)]
theorem Row.anew {w':World} {m:Nat} {os:Array Obj} (h:Row w tag t base e (.slice (some ⟨g,0,none⟩) zs.length c) (litVals zs)) (hl:zs'.length=zs.length) (hw:w'=grow (putRow (Value.int .i64) (Sort.ahead w m) g 0 zs'.toArray) os) :
  Row w' tag t base e (.slice (some ⟨g,0,none⟩) zs.length c) (litVals zs')∧Cg tag (fun s=>s=t) w w':=by
 subst hw
 have h1:Row (Sort.ahead w m) tag t base e (.slice (some ⟨g,0,none⟩) zs.length c) (litVals zs):=h.chg (S:=fun _=>False) (cg_new (below_drewN (Below.refl _ _) m)) id
 obtain ⟨h2,h3⟩:=h1.put_ hl
 have c1:Cg tag (fun s=>s=t) w (Sort.ahead w m):=cg_new (below_drewN (Below.refl _ _) m)
 have c2:Cg tag (fun s=>s=t) (putRow (Value.int .i64) (Sort.ahead w m) g 0 zs'.toArray) (grow (putRow (Value.int .i64) (Sort.ahead w m) g 0 zs'.toArray) os):=cg_new (below_grow _ _)
 exact ⟨h2.chg (S:=fun _=>False) (cg_new (below_grow _ _)) id,(Chg.trans c1 h3).trans c2⟩
end
end Go.Proofs.YthkhfbofhdfdoaaGreatDoor
namespace Go.Proofs.YthkhfbofhdfdoaaGreatDoor.slv
open Go.RowKit Go.Sort
section
variable {w:World} {tag:Nat→Tag} {p V:Nat} {y:SLay} {s:SS}
theorem neat_nil:neat []=[]:=by unfold neat; rw [show (([]:List Int).mergeSort fun x y=>decide (x≤y))=[] by simp]; rfl
attribute [local irreducible] wpSeq wpMv
set_option maxRecDepth 100000 in
set_option maxHeartbeats 8000000 in
theorem add_none {A:Option Addr} {cc:Nat} {s':SS} (h:Slv w tag p V y s) (hu:addM V s []=some s') :
  Calls Tryz.prog 45 #[.pointer (some ⟨p,0,none⟩),.slice A 0 cc] w (StS w tag p V s'):=by
 have hs:s'={ s with dead:=true }:=by
  unfold addM at hu
  rw [neat_nil] at hu
  dsimp only at hu
  rw [if_neg (by simp)] at hu
  injection hu with hu
  exact hu.symm
 subst hs
 have C1:=Lib.hid (Tryz.slices_Sort_int_none A cc w)
 have C2:=Lib.hid (Tryz.slices_Compact_int_empty A cc w)
 obtain ⟨h2,a2⟩:=h.setDead true
 have c15:w.cell? ⟨p,15,none⟩=some (.bool s.dead):=h.blk.cell 15
 have f15:w.frozen? ⟨p,15,none⟩=false:=h.blk.frozen 15
 have l15:p<w.heap.size:=h.blk.lt
 have HE:=Lib.hid (show StS w tag p V { s with dead:=true } (.returned (.tuple #[])) (w.setCell ⟨p,15,none⟩ (.bool true)) from ⟨rfl,tag,y,Re.refl _ _,a2,h2⟩)
 clear h hu h2 a2
 go_enter Tryz.func45,Tryz.ntmps45
 go_wp2_with fail
 refine C1.out.mono ?_
 rintro e w1 ⟨rfl,hw1⟩
 subst hw1
 go_wp2_with fail
 refine C2.out.mono ?_
 rintro e w2 ⟨rfl,hw2⟩
 subst hw2
 go_wp2_with fail
 go_loop [12] (fun iv=>iv = .int .i64 0) (fun _=>0)
 case atStart=>rfl
 case round=>
  subst hrel
  go_wp2_with fail
  go_end0
  exact HE.out
def AdL (zs:List Int) (iv:Value):Prop:=∃ i:Nat,iv = .int .i64 (i:Nat)∧i≤zs.length∧∀ (j:Nat) n,j<i→zs[j]? = some n→(decide (0<n)&&zs.contains (-n))=false
def AdP (w:World) (tag:Nat→Tag) (p V:Nat) (g:Option Nat) (s:SS) (e:Ending) (w':World):Prop:=
 e = .returned (.tuple #[])∧∃ tag' y',(∀ b,b<w.heap.size→some b≠g→tag' b=tag b)∧Cg tag (Fr 18) w w'∧Slv w' tag' p V y' s
theorem Cg.r18 {w':World} (h:Cg tag (Fr 16) w w'):Cg tag (Fr 18) w w':=h.mono_ fun _ ht=>⟨ht.1,Nat.le_trans ht.2 (by decide)⟩
theorem add_none' {A:Option Addr} {cc:Nat} {s':SS} (h:Slv w tag p V y s) (hu:addM V s []=some s') :
  Calls Tryz.prog 45 #[.pointer (some ⟨p,0,none⟩),.slice A 0 cc] w (AdP w tag p V none s'):=by
 refine (add_none h hu).mono ?_
 rintro e w' ⟨rfl,tag',y',h1,h2,h3⟩
 exact ⟨rfl,tag',y',fun b hb _=>h1 b hb,Cg.r18 h2,h3⟩
set_option maxRecDepth 100000 in
set_option maxHeartbeats 8000000 in
theorem add_any {g n cc base:Nat} {c:List Int} {s':SS} (h:Slv w tag p V y s) (hu:addM V s c=some s') (hV:V≤400000) (hn:c.length=n) (hc0:0<n) (hcl:n≤1000000) (hlit:∀ x∈c,x.natAbs≤1000000)
  (hrow:Row w tag (18,0) base 3 (.slice (some ⟨g,0,none⟩) n cc) (litVals c)) :
  Calls Tryz.prog 45 #[.pointer (some ⟨p,0,none⟩),.slice (some ⟨g,0,none⟩) n cc] w (AdP w tag p V (some g) s'):=by
 obtain ⟨z1,hz1⟩:∃ z1,(c.mergeSort fun x y=>decide (x≤y))=z1:=⟨_,rfl⟩
 have hl1:z1.length=n:=by rw [← hz1,sort_len,hn]
 obtain ⟨z2,hz2⟩:∃ z2,Lib.compact z1=z2:=⟨_,rfl⟩
 have hne:neat c=z2:=by unfold neat; rw [hz1,hz2]
 have hl2:z2.length≤n:=by rw [← hz2,← hl1]; exact Lib.compact_length_le z1
 have hmem:∀ x,x∈z2↔x∈c:=fun x=>by rw [← hz2,compact_mem,← hz1,sort_mem]
 have hg:g<w.heap.size:=(hrow.own.lt g rfl).2
 have hcc:n≤cc:=by
  rcases hrow.own.2 with ⟨h0,h1⟩ | ⟨g',c',cur,hv',_,_,hle,_⟩
  ·cases h0
  ·rw [litVals_len,hn] at hle; injection hv' with _ _ e3; omega
 have hrow':Row w tag (18,0) base 3 (.slice (some ⟨g,0,none⟩) c.length cc) (litVals c):=by rw [hn]; exact hrow
 have C1:=Tryz.slices_Sort_int g 0 cc c w (Row.holds hrow') hg (by omega)
 rw [hz1,hn] at C1
 have C1:=Lib.hid C1
 have HROW:=Lib.hid hrow'
 have HZ:=Lib.hid (And.intro hl1 (And.intro hz2 (And.intro hmem hz1)))
 have HS:=Lib.hid h
 have HN:=Lib.hid hn
 have HLIT:=Lib.hid hlit
 unfold addM at hu
 rw [hne] at hu
 have HU:=Lib.hid hu
 clear h hu hrow hrow' hz1 hl1 hz2 hne hmem hlit hn
 go_enter Tryz.func45,Tryz.ntmps45
 go_wp2_with fail
 refine C1.out.mono ?_
 rintro e w1 ⟨rfl,q1,os1,hw1⟩
 obtain ⟨hr1,hc1⟩:=HROW.out.anew (zs':=z1) (by rw [HZ.out.1,HN.out]) hw1
 have hr1':Row w1 tag (18,0) base 3 (.slice (some ⟨g,0,none⟩) z1.length cc) (litVals z1):=by rw [HZ.out.1,← HN.out]; exact hr1
 have C2:=Tryz.slices_Compact_int g 0 cc z1 w1 (Row.holds hr1') (by rw [HZ.out.1]; omega) (by rw [HZ.out.1]; exact hcc)
 rw [HZ.out.2.1,HZ.out.1] at C2
 have C2:=Lib.hid C2
 have HR1:=Lib.hid hr1'
 have HC1:=Lib.hid hc1
 clear hr1 hr1' hc1 hw1 C1
 go_wp2_with fail
 refine C2.out.mono ?_
 rintro e w2 ⟨rfl,q2,hw2⟩
 obtain ⟨hr2,hc2⟩:=HR1.out.anew (w':=w2) (m:=q2) (os:=#[]) (zs':=z2++List.replicate (n-z2.length) 0) (by rw [List.length_append,List.length_replicate,HZ.out.1]; omega) (by rw [hw2,grow_empty])
 obtain ⟨m,hm⟩:∃ m,z2.length=m:=⟨_,rfl⟩
 rw [hm]
 have hr3:Row w2 tag (18,0) base 3 (.slice (some ⟨g,0,none⟩) m cc) (litVals z2):=by
  have h1:(litVals (z2++List.replicate (n-z2.length) 0)).length=n:=by rw [litVals_len,List.length_append,List.length_replicate]; omega
  have h2:Row w2 tag (18,0) base 3 (.slice (some ⟨g,0,none⟩) (litVals (z2++List.replicate (n-z2.length) 0)).length cc) (litVals (z2++List.replicate (n-z2.length) 0)):=by have h9:=hr2; rw [HZ.out.1] at h9; rw [h1]; exact h9
  have h3:=h2.cut (n:=m) (by rw [h1]; omega)
  have e:(litVals (z2++List.replicate (n-z2.length) 0)).take m=litVals z2:=by
   unfold litVals
   rw [← List.map_take,← hm,List.take_left]
  rw [e] at h3
  exact h3
 have hm0:0<m:=by
  rw [← hm]
  obtain ⟨x,hx⟩:∃ x,x∈c:=by
   cases c with
   | nil=>have:=HN.out; simp at this; omega
   | cons x r=>exact ⟨x,List.mem_cons_self⟩
  exact List.length_pos_of_mem ((HZ.out.2.2.1 x).2 hx)
 have hc12':Cg tag (fun s=>s=(18,0)) w w2:=HC1.out.trans hc2
 have hc12:Cg tag (Fr 18) w w2:=hc12'.mono_ fun t e=>by subst e; exact ⟨by decide,by decide⟩
 have hs2:Slv w2 tag p V y s:=HS.out.keep hc12' fun t ht e=>by subst e; exact absurd ht.2 (by decide)
 have hcell:∀ (j:Nat) x,z2[j]? = some x→w2.cell? ⟨g,j,none⟩=some (.int .i64 x):=fun j x hx=>by
  have h1:Row w2 tag (18,0) base 3 (.slice (some ⟨g,0,none⟩) (litVals z2).length cc) (litVals z2):=by rw [litVals_len,hm]; exact hr3
  exact h1.cell (lit_at hx)
 have CC:=Lib.hid (fun x=>Tryz.slices_Contains_int g 0 m cc z2 x w2 (by omega) (by omega) (fun j hj=>by
  rw [Nat.zero_add,List.getD_eq_getElem?_getD,List.getElem?_eq_getElem hj]
  exact hcell j _ (List.getElem?_eq_getElem hj)))
 have HCELL:=Lib.hid hcell
 have HR3:=Lib.hid hr3
 have HC12:=Lib.hid hc12
 have HS2:=Lib.hid hs2
 have HM:=Lib.hid hm
 have hmn:m≤n:=by omega
 have HLIT2:=Lib.hid (fun x hx=>HLIT.out x ((HZ.out.2.2.1 x).1 hx))
 clear hr2 hc2 hw2 hr3 hc12 hc12' hs2 hcell hm C2 HR1 HC1 HZ HROW HS HLIT hl2
 go_wp2_with fail
 go_loop [12] (fun iv=>AdL z2 iv) (fun iv=>m-(intOf iv).toNat)
 case atStart=>exact ⟨0,rfl,Nat.zero_le _,fun j n hj=>absurd hj (Nat.not_lt_zero _)⟩
 case round=>
  obtain ⟨i,e1,hi,hall⟩:=hrel
  subst e1
  rw [HM.out] at hi
  by_cases him:i<m
  ·as_aux_lemma=>
   obtain ⟨x,hx⟩:∃ x,z2[i]? = some x:=⟨_,List.getElem?_eq_getElem (by have:=HM.out; omega)⟩
   have cx:=HCELL.out i x hx
   have hiI:(i:Int)<(m:Int):=by omega
   have hxl:=HLIT2.out x (List.mem_of_getElem? hx)
   obtain ⟨u,hu⟩:∃ u,-x=u:=⟨_,rfl⟩
   have wn:IntKind.i64.wrap (-x)=u:=by rw [IntKind.wrap_i64]; omega
   have wi:IntKind.i64.wrap ((i:Int)+1)=((i+1:Nat):Int):=by rw [IntKind.wrap_i64]; omega
   have hnext:(decide (0<x)&&z2.contains (-x))=false→AdL z2 (.int .i64 ((i+1:Nat):Int)):=fun hf=>
    ⟨i+1,rfl,by have:=HM.out; omega,fun j n hj hn=>by
     by_cases e:j=i
     ·subst e; rw [hx] at hn; injection hn with hn; subst hn; exact hf
     ·exact hall j n (by omega) hn⟩
   by_cases hp:0<x
   ·have t1:decide (x > 0)=true:=decide_eq_true hp
    have CX:=CC.out u
    rw [show z2.take m=z2 by rw [← HM.out,List.take_length]] at CX
    have CX:=Lib.hid CX
    cases hcon:z2.contains u with
    | true=>
     have hany:z2.any (fun n=>decide (0<n)&&z2.contains (-n))=true:=List.any_eq_true.2 ⟨x,List.mem_of_getElem? hx,by rw [hu,hcon,decide_eq_true hp]; rfl⟩
     have hu2:=HU.out
     rw [if_pos hany] at hu2
     injection hu2 with hu2
     subst hu2
     rw [hcon] at CX
     have HE:=Lib.hid (show AdP w tag p V (some g) s (.returned (.tuple #[])) w2 from ⟨rfl,tag,y,fun b _ _=>rfl,HC12.out,HS2.out⟩)
     clear hall hnext hany hx hxl hu hcon hp
     go_wp2_with fail
     refine CX.out.mono ?_
     rintro e w3 ⟨rfl,hw3⟩
     subst hw3
     go_wp2_with fail
     go_end0
     exact HE.out
    | false=>
     have HN1:=Lib.hid (hnext (by rw [hu,hcon]; simp))
     rw [hcon] at CX
     clear hall hnext hx hxl hu hcon hp
     go_wp2_with fail
     refine CX.out.mono ?_
     rintro e w3 ⟨rfl,hw3⟩
     subst hw3
     go_wp2_with fail
     go_round
     case rel=>exact HN1.out
     case measure=>simp [intOf]; omega
   ·have t1:decide (x > 0)=false:=decide_eq_false hp
    have HN1:=Lib.hid (hnext (by rw [decide_eq_false hp]; rfl))
    clear hall hnext hx hxl hu hp
    go_wp2_with fail
    go_round
    case rel=>exact HN1.out
    case measure=>simp [intOf]; omega
  ·obtain rfl:i=m:=by omega
   have hany:¬ z2.any (fun n=>decide (0<n)&&z2.contains (-n))=true:=fun e=>by
    obtain ⟨n,hn,h1⟩:=List.any_eq_true.1 e
    obtain ⟨j,hj,h2⟩:=List.getElem_of_mem hn
    have:=hall j n (by have:=HM.out; omega) (by rw [List.getElem?_eq_getElem hj,h2])
    rw [h1] at this
    cases this
   have hu2:=HU.out
   rw [if_neg hany] at hu2
   have HU2:=Lib.hid hu2
   clear hall hany hu2 hi him HU CC
   have hml:=HM.out
   obtain ⟨x0,hx0⟩:∃ x,z2[0]? = some x:=⟨_,List.getElem?_eq_getElem (by omega)⟩
   have cx0:=HCELL.out 0 x0 hx0
   have hx0l:=HLIT2.out x0 (List.mem_of_getElem? hx0)
   have tm0:((i:Int) == 0)=false:=by simp; omega
   have hm0I:(0:Int)<(i:Int):=by omega
   have hu2:=HU2.out
   match hzz:z2,hml,hx0,hu2 with
   | [],hml,hx0,hu2=>cases hx0
   | [a],hml,hx0,hu2=>
    as_aux_lemma=>
    injection hx0 with hx0
    subst hx0
    have hi1:i=1:=by rw [← hml]; rfl
    have tm1:((i:Int) == 1)=true:=by simp [hi1]
    dsimp only at hu2
    split at hu2
    ·cases hu2
    rename_i xv hof
    have CO:=Lib.hid (of_any HS2.out hof hV)
    clear hi1 hof hml hzz tm0
    by_cases hxm:xv = -1
    ·rw [if_pos hxm] at hu2
     injection hu2 with hu2
     subst hu2
     have t7:(xv == -1)=true:=by simp [hxm]
     obtain ⟨h3,a3⟩:=HS2.out.setDead true
     have c15:w2.cell? ⟨p,15,none⟩=some (.bool s.dead):=HS2.out.blk.cell 15
     have f15:w2.frozen? ⟨p,15,none⟩=false:=HS2.out.blk.frozen 15
     have l15:p<w2.heap.size:=HS2.out.blk.lt
     have HE:=Lib.hid (show AdP w tag p V (some g) { s with dead:=true } (.returned (.tuple #[])) (w2.setCell ⟨p,15,none⟩ (.bool true)) from ⟨rfl,tag,y,fun b _ _=>rfl,HC12.out.trans (Cg.r18 a3),h3⟩)
     clear h3 a3 hxm
     go_wp2_with fail
     refine CO.out.mono ?_
     rintro e w3 ⟨rfl,rfl⟩
     go_wp2_with fail
     go_end0
     exact HE.out
    ·rw [if_neg hxm] at hu2
     have t7:(xv == -1)=false:=by simp [hxm]
     by_cases hx0z:xv=0
     ·rw [if_pos hx0z] at hu2
      have t8:(xv == 0)=true:=by simp [hx0z]
      have CS:=Lib.hid (setM_any HS2.out hu2 hV)
      clear hu2 hxm hx0z
      go_wp2_with fail
      refine CO.out.mono ?_
      rintro e w3 ⟨rfl,rfl⟩
      go_wp2_with fail
      refine CS.out.mono ?_
      rintro e w4 ⟨rfl,tag4,y4,hr4,hc4,h4⟩
      have HE:=Lib.hid (show AdP w tag p V (some g) s' (.returned (.tuple #[])) w4 from ⟨rfl,tag4,y4,fun b hb _=>hr4 b (by have:=HC12.out.size; omega),HC12.out.trans (Cg.r18 hc4),h4⟩)
      clear hr4 hc4 h4
      go_wp2_with fail
      go_end0
      exact HE.out
     ·rw [if_neg hx0z] at hu2
      injection hu2 with hu2
      subst hu2
      have t8:(xv == 0)=false:=by simp [hx0z]
      have HE:=Lib.hid (show AdP w tag p V (some g) s (.returned (.tuple #[])) w2 from ⟨rfl,tag,y,fun b _ _=>rfl,HC12.out,HS2.out⟩)
      clear hxm hx0z
      go_wp2_with fail
      refine CO.out.mono ?_
      rintro e w3 ⟨rfl,rfl⟩
      go_wp2_with fail
      go_end0
      exact HE.out
   | a::b::r,hml,hx0,hu2=>
    as_aux_lemma=>
    have hi2:2≤i:=by rw [← hml]; simp
    have tm1:((i:Int) == 1)=false:=by simp; omega
    dsimp only at hu2
    obtain ⟨h3,hr3,hne3,hbase3⟩:=retag (t2:=(3,(s.xs.length:Int))) HS2.out HR3.out (fun e=>absurd e.2 (by decide))
    have CA:=Lib.hid (attach_any h3 hu2 hV hml hr3)
    have HNE:=Lib.hid hne3
    have htg:tag g=(18,0):=HR3.out.tg g rfl
    have HTG:=Lib.hid htg
    clear hi2 hml hzz tm0 h3 hr3 hne3 hbase3 hu2 hx0 htg
    go_wp2_with fail
    refine CA.out.mono ?_
    rintro e w4 ⟨rfl,tag4,y4,hr4,hc4,h4⟩
    have hc4':Cg tag (Fr 18) w2 w4:=hc4.mono fun b o hb hS=>by
     show Fr 18 (tag b)
     by_cases e:b=g
     ·subst e; rw [HTG.out]; exact ⟨by decide,by decide⟩
     ·have h9:Fr 16 (put tag g (3,(s.xs.length:Int)) b):=hS
      rw [HNE.out b e] at h9
      exact ⟨h9.1,Nat.le_trans h9.2 (by decide)⟩
    have HE:=Lib.hid (show AdP w tag p V (some g) s' (.returned (.tuple #[])) w4 from ⟨rfl,tag4,y4,fun b hb hbg=>(hr4 b (by have:=HC12.out.size; omega)).trans (HNE.out b fun e=>hbg (by rw [e])),HC12.out.trans hc4',h4⟩)
    clear hr4 hc4 h4 hc4'
    go_wp2_with fail
    go_end0
    exact HE.out
end
end Go.Proofs.YthkhfbofhdfdoaaGreatDoor.slv
namespace Go.Proofs.YthkhfbofhdfdoaaGreatDoor.slv
open Go.RowKit
def fl0:Value:=.float .f64 0
def ini (V:Nat) (hp:List Nat) (pl:List Int):SS:={ newS V with hp:=hp,pl:=pl }
set_option maxRecDepth 100000 in
theorem make_i8S (n:Nat) (hn:n≤1000000) (w:World):(Instr.makeSlice 97 (.int .i64 ((n:Int)+1)) (.int .i64 ((n:Int)+1))).run Tryz.prog w =
  .ok (.slice (some ⟨w.heap.size,0,none⟩) (n+1) (n+1)) (w.alloc (.cells (i8Vals (List.replicate (n+1) 0)).toArray 107)):=by
 obtain ⟨i0,hi,hz0,hz1,hz2⟩:=info_parts (show (Tryz.prog.info? 107).map (fun i=>(i.zero,i.size,i.bytes))=some (some (.int .i8 0),1,1) by kernel_rfl)
 have h:=run_make_rowN (P:=Tryz.prog) 97 107 i0 (.int .i8 0) Tryz.underlying97 hi hz0 .i64 .i64 (n+1) (n+1) (Nat.le_refl _) (by rw [hz2]; omega) (by omega) w
 have e0:((n+1:Nat):Int)=(n:Int)+1:=by omega
 rw [e0] at h
 rw [h]
 congr 3
 rw [hz1,Nat.mul_one]
 have e:=toList_madeCells_one (.int .i8 0) (n+1)
 have e2:i8Vals (List.replicate (n+1) 0)=List.replicate (n+1) (Value.int .i8 0):=by unfold i8Vals; simp
 rw [e2,← e]; rfl
set_option maxRecDepth 100000 in
theorem make_intS (n:Nat) (hn:n≤1000000) (w:World):(Instr.makeSlice 40 (.int .i64 ((n:Int)+1)) (.int .i64 ((n:Int)+1))).run Tryz.prog w =
  .ok (.slice (some ⟨w.heap.size,0,none⟩) (n+1) (n+1)) (w.alloc (.cells (litVals (List.replicate (n+1) 0)).toArray 3)):=by
 obtain ⟨i0,hi,hz0,hz1,hz2⟩:=info_parts info_int
 have h:=run_make_rowN (P:=Tryz.prog) 40 3 i0 (.int .i64 0) Tryz.underlying40 hi hz0 .i64 .i64 (n+1) (n+1) (Nat.le_refl _) (by rw [hz2]; omega) (by omega) w
 have e0:((n+1:Nat):Int)=(n:Int)+1:=by omega
 rw [e0] at h
 rw [h]
 congr 3
 rw [hz1,Nat.mul_one]
 have e:=toList_madeCells_one (.int .i64 0) (n+1)
 have e2:litVals (List.replicate (n+1) 0)=List.replicate (n+1) (Value.int .i64 0):=by unfold litVals; simp
 rw [e2,← e]; rfl
def newTag (p gw gv gl gr gs gp gP:Nat):Nat→Tag:=fun g=>if g=p then (1,0) else if g=gw then (4,0) else if g=gv then (6,0) else if g=gl then (7,0) else if g=gr then (8,0) else if g=gs then (11,0) else if g=gp then (12,0) else if g=gP then (14,0) else (0,0)
theorem slv_new {w:World} {p gw gv gl gr gs gp gP V:Nat}
  (hp:Blk w p 101 #[.int .i64 (V:Nat),.slice none 0 0,.slice (some ⟨gw,0,none⟩) (2*V+2) (2*V+2),.slice (some ⟨gv,0,none⟩) (V+1) (V+1),.slice (some ⟨gl,0,none⟩) (V+1) (V+1),.slice (some ⟨gr,0,none⟩) (V+1) (V+1),.slice none 0 0,.slice none 0 0,.int .i64 ((0:Nat):Int),.slice (some ⟨gs,0,none⟩) (V+1) (V+1),.float .f64 4607182418800017408,.slice (some ⟨gp,0,none⟩) (V+1) (V+1),.slice none 0 0,.slice (some ⟨gP,0,none⟩) (V+1) (V+1),.slice none 0 0,.bool false])
  (hw:Blk w gw 40 (List.replicate (2*V+2) (Value.slice none 0 0)).toArray) (hv:Blk w gv 107 (i8Vals (List.replicate (V+1) 0)).toArray) (hl:Blk w gl 3 (litVals (List.replicate (V+1) 0)).toArray) (hr:Blk w gr 3 (litVals (List.replicate (V+1) 0)).toArray)
  (hs:Blk w gs 99 (List.replicate (V+1) fl0).toArray) (hph:Blk w gp 4 (boolVals (List.replicate (V+1) false)).toArray) (hP:Blk w gP 3 (litVals (List.replicate (V+1) 0)).toArray)
  (hd:gw≠p∧gv≠p∧gl≠p∧gr≠p∧gs≠p∧gp≠p∧gP≠p∧gv≠gw∧gl≠gw∧gr≠gw∧gs≠gw∧gp≠gw∧gP≠gw∧gl≠gv∧gr≠gv∧gs≠gv∧gp≠gv∧gP≠gv∧gr≠gl∧gs≠gl∧gp≠gl∧gP≠gl∧gs≠gr∧gp≠gr∧gP≠gr∧gp≠gs∧gP≠gs∧gP≠gp) :
  Slv w (newTag p gw gv gl gr gs gp gP) p V ⟨.slice none 0 0,[],gw,List.replicate (2*V+2) (.slice none 0 0),gv,gl,gr,.slice none 0 0,.slice none 0 0,gs,gp,.slice none 0 0,gP,.slice none 0 0,[]⟩ (ini V [] (List.replicate (V+1) 0)):=by
 obtain ⟨d1,d2,d3,d4,d5,d6,d7,d8,d9,d10,d11,d12,d13,d14,d15,d16,d17,d18,d19,d20,d21,d22,d23,d24,d25,d26,d27,d28⟩:=hd
 exact {
  blk:=hp
  tp:=by unfold newTag; rw [if_pos rfl]
  hdr:=Row.nil _ _ _ _ _
  cls:=fun k x u hx hu=>by cases hx
  whd:=by
   have:=hw.cel (tag:=newTag p gw gv gl gr gs gp gP) (t:=(4,0)) (by unfold newTag; rw [if_neg d1,if_pos rfl])
   simpa [ini,newS,fVals,fl0] using this
  wts:=fun i u hu=>by
   have hu:(List.replicate (2*V+2) (Value.slice none 0 0))[i]? = some u:=hu
   have:=List.eq_of_mem_replicate (List.mem_of_getElem? hu)
   subst this
   exact Row.nil _ _ _ _ _
  val:=by
   have:=hv.cel (tag:=newTag p gw gv gl gr gs gp gP) (t:=(6,0)) (by unfold newTag; rw [if_neg d2,if_neg d8,if_pos rfl])
   simpa [ini,newS,fVals,fl0] using this
  lev:=by
   have:=hl.cel (tag:=newTag p gw gv gl gr gs gp gP) (t:=(7,0)) (by unfold newTag; rw [if_neg d3,if_neg d9,if_neg d14,if_pos rfl])
   simpa [ini,newS,fVals,fl0] using this
  rea:=by
   have:=hr.cel (tag:=newTag p gw gv gl gr gs gp gP) (t:=(8,0)) (by unfold newTag; rw [if_neg d4,if_neg d10,if_neg d15,if_neg d19,if_pos rfl])
   simpa [ini,newS,fVals,fl0] using this
  trl:=Row.nil _ _ _ _ _
  lim:=Row.nil _ _ _ _ _
  sco:=by
   have:=hs.cel (tag:=newTag p gw gv gl gr gs gp gP) (t:=(11,0)) (by unfold newTag; rw [if_neg d5,if_neg d11,if_neg d16,if_neg d20,if_neg d23,if_pos rfl])
   simpa [ini,newS,fVals,fl0] using this
  pha:=by
   have:=hph.cel (tag:=newTag p gw gv gl gr gs gp gP) (t:=(12,0)) (by unfold newTag; rw [if_neg d6,if_neg d12,if_neg d17,if_neg d21,if_neg d24,if_neg d26,if_pos rfl])
   simpa [ini,newS,fVals,fl0] using this
  hea:=Row.nil _ _ _ _ _
  pla:=by
   have:=hP.cel (tag:=newTag p gw gv gl gr gs gp gP) (t:=(14,0)) (by unfold newTag; rw [if_neg d7,if_neg d13,if_neg d18,if_neg d22,if_neg d25,if_neg d27,if_neg d28,if_pos rfl])
   simpa [ini,newS,fVals,fl0] using this
  prf:=Row.nil _ _ _ _ _
  prc:=fun k x u hx hu=>by cases hx
  rlen:=rfl
  wlen:=by simp
  vl:=by simp [ini,newS]
  ll:=by simp [ini,newS]
  rl:=by simp [ini,newS]
  sl:=by simp [ini,newS]
  phl:=by simp [ini,newS]
  pll:=by simp [ini,newS]
  plen:=rfl }
section
theorem info_bool:(Tryz.prog.info? 4).map (fun i=>(i.zero,i.size,i.bytes))=some (some (.bool false),1,1):=by kernel_rfl
theorem info_f64:(Tryz.prog.info? 99).map (fun i=>(i.zero,i.size,i.bytes))=some (some fl0,1,8):=by kernel_rfl
theorem info_sl:(Tryz.prog.info? 40).map (fun i=>(i.zero,i.size,i.bytes))=some (some (.slice none 0 0),1,24):=by kernel_rfl
set_option maxRecDepth 100000 in
theorem make_bool (n:Nat) (hn:n≤1000000) (w:World):(Instr.makeSlice 43 (.int .i64 ((n:Int)+1)) (.int .i64 ((n:Int)+1))).run Tryz.prog w =
  .ok (.slice (some ⟨w.heap.size,0,none⟩) (n+1) (n+1)) (w.alloc (.cells (boolVals (List.replicate (n+1) false)).toArray 4)):=by
 obtain ⟨i0,hi,hz0,hz1,hz2⟩:=info_parts info_bool
 have h:=run_make_rowN (P:=Tryz.prog) 43 4 i0 (.bool false) Tryz.underlying43 hi hz0 .i64 .i64 (n+1) (n+1) (Nat.le_refl _) (by rw [hz2]; omega) (by omega) w
 have e0:((n+1:Nat):Int)=(n:Int)+1:=by omega
 rw [e0] at h
 rw [h]
 congr 3
 rw [hz1,Nat.mul_one]
 have e:=toList_madeCells_one (.bool false) (n+1)
 have e2:boolVals (List.replicate (n+1) false)=List.replicate (n+1) (Value.bool false):=by unfold boolVals; simp
 rw [e2,← e]; rfl
set_option maxRecDepth 100000 in
theorem make_f64 (n:Nat) (hn:n≤1000000) (w:World):(Instr.makeSlice 98 (.int .i64 ((n:Int)+1)) (.int .i64 ((n:Int)+1))).run Tryz.prog w =
  .ok (.slice (some ⟨w.heap.size,0,none⟩) (n+1) (n+1)) (w.alloc (.cells (List.replicate (n+1) fl0).toArray 99)):=by
 obtain ⟨i0,hi,hz0,hz1,hz2⟩:=info_parts info_f64
 have h:=run_make_rowN (P:=Tryz.prog) 98 99 i0 fl0 Tryz.underlying98 hi hz0 .i64 .i64 (n+1) (n+1) (Nat.le_refl _) (by rw [hz2]; omega) (by omega) w
 have e0:((n+1:Nat):Int)=(n:Int)+1:=by omega
 rw [e0] at h
 rw [h]
 congr 3
 rw [hz1,Nat.mul_one]
 have e:=toList_madeCells_one fl0 (n+1)
 rw [← e]; rfl
set_option maxRecDepth 100000 in
theorem make_sl (n:Nat) (hn:n≤1000000) (w:World):(Instr.makeSlice 96 (.int .i64 (2*(n:Int)+2)) (.int .i64 (2*(n:Int)+2))).run Tryz.prog w =
  .ok (.slice (some ⟨w.heap.size,0,none⟩) (2*n+2) (2*n+2)) (w.alloc (.cells (List.replicate (2*n+2) (Value.slice none 0 0)).toArray 40)):=by
 obtain ⟨i0,hi,hz0,hz1,hz2⟩:=info_parts info_sl
 have h:=run_make_rowN (P:=Tryz.prog) 96 40 i0 (.slice none 0 0) Tryz.underlying96 hi hz0 .i64 .i64 (2*n+2) (2*n+2) (Nat.le_refl _) (by rw [hz2]; omega) (by omega) w
 have e0:((2*n+2:Nat):Int)=2*(n:Int)+2:=by omega
 rw [e0] at h
 rw [h]
 congr 3
 rw [hz1,Nat.mul_one]
 have e:=toList_madeCells_one (.slice none 0 0) (2*n+2)
 rw [← e]; rfl
def mkO (V:Nat):Nat→MkS
 | 4=>⟨14,2*V+2,.cells (List.replicate (2*V+2) (Value.slice none 0 0)).toArray 40 (0,0)⟩
 | 7=>⟨17,V+1,.cells (i8Vals (List.replicate (V+1) 0)).toArray 107 (0,0)⟩
 | 10=>⟨20,V+1,.cells (litVals (List.replicate (V+1) 0)).toArray 3 (0,0)⟩
 | 13=>⟨23,V+1,.cells (litVals (List.replicate (V+1) 0)).toArray 3 (0,0)⟩
 | 16=>⟨26,V+1,.cells (List.replicate (V+1) fl0).toArray 99 (0,0)⟩
 | 19=>⟨29,V+1,.cells (boolVals (List.replicate (V+1) false)).toArray 4 (0,0)⟩
 | _=>⟨32,V+1,.cells (litVals (List.replicate (V+1) 0)).toArray 3 (0,0)⟩
def NwR (w:World) (p V:Nat) (iv:Value) (wr:World):Prop:=∃ (k:Nat) (tag:Nat→Tag) (y:SLay),k≤V∧iv = .int .i64 ((k+1:Nat):Int)∧(∀ g,g<w.heap.size→tag g=(0,0))∧Below w.heap.size w wr∧Slv wr tag p V y (ini V ((List.range k).map (·+1)) (0::(List.range V).map (fun (j:Nat)=>if j<k then (j:Int) else 0)))
def NwP (w:World) (V:Nat) (sF:SS) (e:Ending) (w':World):Prop:=∃ p tag y,e = .returned (.pointer (some ⟨p,0,none⟩))∧(∀ g,g<w.heap.size→tag g=(0,0))∧Below w.heap.size w w'∧Slv w' tag p V y sF
def CsO (w:World) (A:Option Addr) (F:List (List Int)):Prop:=∀ (i:Nat) (l:List Int),F[i]? = some l→∃ g u,A=some ⟨g,0,none⟩∧g<w.heap.size∧w.cell? ⟨g,i,none⟩=some u∧w.ownsRow 0 3 1 u l.length (litVals l)
theorem CsO.below {w w':World} {A:Option Addr} {F:List (List Int)} (h:CsO w A F) (hb:Below w.heap.size w w'):CsO w' A F:=fun i l hl=>by
 obtain ⟨g,u,h1,h2,h3,h4⟩:=h i l hl
 exact ⟨g,u,h1,Nat.lt_of_lt_of_le h2 hb.size,(hb.cell (p:=⟨g,i,none⟩) h2).trans h3,own_chg (S:=fun _ _=>False) h4 (Chg.of_new hb) (fun _ _ _ _=>id)⟩
def NwC (w:World) (p V n:Nat) (F:List (List Int)) (sF:SS) (iv:Value) (wr:World):Prop:=∃ (i:Nat) (s:SS) (tag:Nat→Tag) (y:SLay),i≤n∧iv = .int .i64 (i:Nat)∧addAll V (F.drop i) s=some sF∧(∀ g,g<w.heap.size→tag g=(0,0))∧Below w.heap.size w wr∧Slv wr tag p V y s
theorem newS_ini (V:Nat):ini V ((List.range V).map (·+1)) (0::(List.range V).map (fun (j:Nat)=>(j:Int)))=newS V:=by
 unfold ini newS
 congr 1
 rw [List.range_succ_eq_map,List.map_cons,List.map_map]
 rfl
theorem pl_step {V k:Nat} (hk:k<V):(0::(List.range V).map (fun (j:Nat)=>if j<k then (j:Int) else 0)).set (k+1) (k:Int)=0::(List.range V).map (fun (j:Nat)=>if j<k+1 then (j:Int) else 0):=by
 rw [List.set_cons_succ]
 congr 1
 apply List.ext_getElem?
 intro j
 rw [List.getElem?_set,List.getElem?_map,List.getElem?_map]
 by_cases hj:j<V
 ·rw [List.getElem?_range hj,Option.map_some,Option.map_some]
  by_cases e:k=j
  ·subst e
   rw [if_pos rfl,if_pos (by simpa using hj),if_pos (by omega)]
  ·rw [if_neg e]
   congr 1
   by_cases h1:j<k
   ·rw [if_pos h1,if_pos (by omega)]
   ·rw [if_neg h1,if_neg (by omega)]
 ·rw [if_neg (by omega),List.getElem?_eq_none (by simp; omega)]; rfl
theorem hp_step (k:Nat):(List.range k).map (·+1)++[k+1]=(List.range (k+1)).map (·+1):=by rw [List.range_succ,List.map_append]; rfl
attribute [local irreducible] wpMv wpFs
set_option maxRecDepth 100000 in
set_option maxHeartbeats 4000000 in
theorem newSolver_any {w:World} {V n c:Nat} {A:Option Addr} {F:List (List Int)} {sF:SS} (hV:V≤150000) (hF:F.length=n) (hr:CsO w A F) (hl:∀ x∈F,x.length≤1000000∧∀ z∈x,z.natAbs≤1000000) (hn:n≤4000000) (hu:newM V F=some sF) :
  Calls Tryz.prog 27 #[.agg #[.int .i64 (V:Nat),.slice A n c]] w (NwP w V sF):=by
 have HCR:=Lib.hid (And.intro hr (And.intro hl (And.intro hF hu)))
 clear hr hl hF hu
 obtain ⟨W1,hW1⟩:∃ W1,W1=w.alloc (.cells #[.int .i64 (V:Nat),.slice A n c] 39):=⟨_,rfl⟩
 have hb1:Below w.heap.size w W1:=by rw [hW1]; exact (Below.refl _ _).alloc (Nat.le_refl _) _
 have k1:Blk W1 w.heap.size 39 #[.int .i64 (V:Nat),.slice A n c]:=by rw [hW1]; exact Blk.new w _ _
 have c0:=k1.cell 0
 have w1:IntKind.i64.wrap ((V:Int)+1)=(V:Int)+1:=by rw [IntKind.wrap_i64]; omega
 have w2:IntKind.i64.wrap (2*(V:Int))=2*(V:Int):=by rw [IntKind.wrap_i64]; omega
 have w3:IntKind.i64.wrap (2*(V:Int)+2)=2*(V:Int)+2:=by rw [IntKind.wrap_i64]; omega
 have m1:=make_sl V (by omega)
 have m2:=make_i8S V (by omega)
 have m3:=make_intS V (by omega)
 have m4:=make_f64 V (by omega)
 have m5:=make_bool V (by omega)
 have HW1:=Lib.hid hW1
 have HB1:=Lib.hid hb1
 have K1:=Lib.hid k1
 clear hW1 hb1 k1
 go_enter Tryz.func27,Tryz.ntmps27
 go_upto_region 1 with fail
 rw [← HW1.out]
 go_wp2_with fail
 refine wp_region_makers (S:=fun _=>True) 25 [0,1,2,3,5,6,8,9,11,12,14,15,17,18,20,21] [4,7,10,13,16,19,22] [.f 23,.t 24,.t 25] (mkO V) (by kernel_rfl) (by kernel_rfl) (by kernel_rfl) (by decide) (by decide) (by kernel_rfl) trivial (fun _ _ _=>trivial) ?_
 iterate 16 (refine fs_take _ _ rfl (by kernel_rfl) (fun wv hv=>by go_simp; try with_reducible rfl) ?_; simp only [Act.put,List.getElem_toArray,List.getElem_cons_zero,List.getElem_cons_succ,List.setIfInBounds_toArray,List.set_cons_zero,List.set_cons_succ])
 refine fs_nil ?_
 intro _
 refine ⟨fun i hi=>?_,fun f W2 hb2 hf hff _=>?_⟩
 ·simp only [List.mem_cons,List.not_mem_nil,or_false] at hi
  rcases hi with rfl | rfl | rfl | rfl | rfl | rfl | rfl
  all_goals exact ⟨_,rfl,rfl,by kernel_rfl,fun wv=>by go_simp; simp [mkO]⟩
 ·simp only [putAll,List.foldl,mkO,Act.put,List.setIfInBounds_toArray,List.set_cons_zero,List.set_cons_succ]
  iterate 1 (refine mv_take _ _ rfl (by kernel_rfl) (fun wv hv=>by go_simp; try with_reducible rfl) ?_; simp only [Act.put,List.getElem_toArray,List.getElem_cons_zero,List.getElem_cons_succ,List.setIfInBounds_toArray,List.set_cons_zero,List.set_cons_succ])
  refine mv_act _ rfl (fun K hK=>?_)
  go_simp
  go_simp
  refine hK _ _ (.inr (trivial)) ?_
  clear hK K
  refine mv_act _ rfl (fun K hK=>?_)
  go_simp
  go_simp
  refine hK _ _ (.inl rfl) ?_
  clear hK K
  refine mv_nil ?_
  obtain ⟨W3,hW3⟩:∃ W3,W2.alloc (.cells #[.int .i64 (V:Nat),.slice none 0 0,.slice (some ⟨f 4,0,none⟩) (2*V+2) (2*V+2),.slice (some ⟨f 7,0,none⟩) (V+1) (V+1),.slice (some ⟨f 10,0,none⟩) (V+1) (V+1),.slice (some ⟨f 13,0,none⟩) (V+1) (V+1),.slice none 0 0,.slice none 0 0,.int .i64 0,.slice (some ⟨f 16,0,none⟩) (V+1) (V+1),.float .f64 4607182418800017408,.slice (some ⟨f 19,0,none⟩) (V+1) (V+1),.slice none 0 0,.slice (some ⟨f 22,0,none⟩) (V+1) (V+1),.slice none 0 0,.bool false] 101)=W3:=⟨_,rfl⟩
  have lt:∀ i∈[4,7,10,13,16,19,22],W1.heap.size≤f i∧f i<W2.heap.size:=fun i hi=>⟨(hf i hi).1,lt_of_heap (hf i hi).2⟩
  have blk:∀ i∈[4,7,10,13,16,19,22],W3.heap[f i]? = some (mkO V i).o:=fun i hi=>by rw [← hW3]; exact (Below.heap_alloc _ _ _ (lt i hi).2).trans (hf i hi).2
  have l4:=lt 4 (by decide); have l7:=lt 7 (by decide); have l10:=lt 10 (by decide); have l13:=lt 13 (by decide); have l16:=lt 16 (by decide); have l19:=lt 19 (by decide); have l22:=lt 22 (by decide)
  have hslv:=slv_new (V:=V) (w:=W3) (p:=W2.heap.size) (gw:=f 4) (gv:=f 7) (gl:=f 10) (gr:=f 13) (gs:=f 16) (gp:=f 19) (gP:=f 22) (by rw [← hW3]; exact Blk.new W2 _ _) (blk 4 (by decide)) (blk 7 (by decide)) (blk 10 (by decide)) (blk 13 (by decide)) (blk 16 (by decide)) (blk 19 (by decide)) (blk 22 (by decide))
   ⟨by omega,by omega,by omega,by omega,by omega,by omega,by omega,hff 7 (by decide) 4 (by decide) (by decide),hff 10 (by decide) 4 (by decide) (by decide),hff 13 (by decide) 4 (by decide) (by decide),hff 16 (by decide) 4 (by decide) (by decide),hff 19 (by decide) 4 (by decide) (by decide),hff 22 (by decide) 4 (by decide) (by decide),
    hff 10 (by decide) 7 (by decide) (by decide),hff 13 (by decide) 7 (by decide) (by decide),hff 16 (by decide) 7 (by decide) (by decide),hff 19 (by decide) 7 (by decide) (by decide),hff 22 (by decide) 7 (by decide) (by decide),
    hff 13 (by decide) 10 (by decide) (by decide),hff 16 (by decide) 10 (by decide) (by decide),hff 19 (by decide) 10 (by decide) (by decide),hff 22 (by decide) 10 (by decide) (by decide),
    hff 16 (by decide) 13 (by decide) (by decide),hff 19 (by decide) 13 (by decide) (by decide),hff 22 (by decide) 13 (by decide) (by decide),hff 19 (by decide) 16 (by decide) (by decide),hff 22 (by decide) 16 (by decide) (by decide),hff 22 (by decide) 19 (by decide) (by decide)⟩
  have htag:∀ g,g<W1.heap.size→newTag W2.heap.size (f 4) (f 7) (f 10) (f 13) (f 16) (f 19) (f 22) g=(0,0):=fun g hg=>by
   have:=hb2.size
   have:W1.heap.size≤W2.heap.size:=this
   unfold newTag
   rw [if_neg (by omega),if_neg (by omega),if_neg (by omega),if_neg (by omega),if_neg (by omega),if_neg (by omega),if_neg (by omega),if_neg (by omega)]
  have hb13:Below W1.heap.size W1 W3:=by
   rw [← hW3]
   exact ((below_drewN (Below.refl _ _) 1).trans hb2).alloc (by have:=hb2.size; exact this) _
  have K3:=Lib.hid (K1.out.below hb13 K1.out.lt)
  have c31:=K3.out.cell 1
  have HST:=Lib.hid (show NwR W1 W2.heap.size V (.int .i64 ((0+1:Nat):Int)) W3 from ⟨0,_,_,Nat.zero_le _,rfl,htag,hb13,by
   have e:(0::(List.range V).map (fun (j:Nat)=>if j<0 then (j:Int) else 0))=List.replicate (V+1) (0:Int):=by
    rw [List.replicate_succ]; congr 1
    apply List.ext_getElem?
    intro j
    rw [List.getElem?_map]
    by_cases hj:j<V
    ·rw [List.getElem?_range hj,List.getElem?_replicate,if_pos hj]; rfl
    ·rw [List.getElem?_eq_none (by simp; omega),List.getElem?_eq_none (by simp; omega)]; rfl
   rw [e]; exact hslv⟩)
  obtain ⟨p,hp⟩:∃ p,W2.heap.size=p:=⟨_,rfl⟩
  rw [hW3]
  rw [hp] at HST ⊢
  have c31:W3.cell? ⟨w.heap.size,1,none⟩=some (.slice A n c):=c31
  clear lt blk l4 l7 l10 l13 l16 l19 l22 hslv htag hb13 hf hff hb2 m1 m2 m3 m4 m5 w1 w2 w3 c0
  obtain ⟨i0,hi,hz0,hz1,hz2⟩:=info_parts info_int
  have HI:=Lib.hid (And.intro hi (And.intro hz0 (And.intro hz1 hz2)))
  clear hi hz0 hz1 hz2 hp hW3
  go_wp2_with fail
  go_loopw [5] (fun iv wr=>NwR W1 p V iv wr) (fun iv _=>V+1-(intOf iv).toNat)
  case atStart=>exact HST.out
  case round=>
   obtain ⟨k,tag,y,hk,rfl,htag,hb,hslv⟩:=hrel
   clear HST
   have HTAG:=Lib.hid htag
   have HB:=Lib.hid hb
   have HSL:=Lib.hid hslv
   clear htag hb
   obtain ⟨vC,rows,gw,wrows,gv,gl,gr,vt,vL,gs,gp,vh,gP,vP,prows⟩:=y
   by_cases hkV:k<V
   ·as_aux_lemma=>
    obtain ⟨Ah,ch,hvh⟩:=hslv.hea.form
    rw [kVals_len] at hvh
    have hvh:vh = .slice Ah k ch:=by simpa [ini,newS,fVals,fl0] using hvh
    subst hvh
    have hpl:(ini V ((List.range k).map (·+1)) (0::(List.range V).map (fun (j:Nat)=>if j<k then (j:Int) else 0))).pl[k+1]? = some 0:=by
     show (0::(List.range V).map (fun (j:Nat)=>if j<k then (j:Int) else 0))[k+1]? = some 0
     rw [List.getElem?_cons_succ,List.getElem?_map,List.getElem?_range hkV,Option.map_some,if_neg (Nat.lt_irrefl k)]
    have cpl:wr.cell? ⟨gP,k+1,none⟩=some (.int .i64 0):=hslv.pla.cell (lit_at hpl)
    have fpl:wr.frozen? ⟨gP,k+1,none⟩=false:=hslv.pla.frozen (k+1)
    have c13:wr.cell? ⟨p,13,none⟩=some (.slice (some ⟨gP,0,none⟩) (V+1) (V+1)):=hslv.blk.cell 13
    obtain ⟨W4,hW4⟩:∃ W4,wr.setCell ⟨gP,k+1,none⟩ (.int .i64 (k:Int))=W4:=⟨_,rfl⟩
    obtain ⟨h4,hc4⟩:=hslv.setPla (k+1) (k:Int)
    dsimp only at h4 hc4
    rw [hW4] at h4 hc4
    have c124:W4.cell? ⟨p,12,none⟩=some (.slice Ah k ch):=h4.blk.cell 12
    have f124:W4.frozen? ⟨p,12,none⟩=false:=h4.blk.frozen 12
    have l4:p<W4.heap.size:=h4.blk.lt
    have hw1:IntKind.i64.wrap (((k+1:Nat):Int)-1)=(k:Int):=by rw [IntKind.wrap_i64]; omega
    have hkV2:((k+1:Nat):Int)≤(V:Int):=by omega
    obtain ⟨k1,hk1⟩:∃ k1,k+1=k1:=⟨_,rfl⟩
    rw [hk1] at cpl fpl hw1 hW4 hkV2 ⊢
    have hk1I:(k1:Int)<(V:Int)+1:=by omega
    have H4:=Lib.hid h4
    have HC4:=Lib.hid hc4
    have HW4:=Lib.hid hW4
    have HK1:=Lib.hid hk1
    have HROW:=Lib.hid (show (W4.alloc (.cells #[.int .i64 (k1:Int)] 3)).ownsRow 0 3 1 (.slice Ah k ch) k (kVals ((List.range k).map (·+1))) from by
     have:=((h4.alloc (.cells #[.int .i64 (k1:Int)] 3)).hea).own
     rw [kVals_len] at this
     have e:({ ini V ((List.range k).map (·+1)) (0::(List.range V).map (fun (j:Nat)=>if j<k then (j:Int) else 0)) with pl:=(ini V ((List.range k).map (·+1)) (0::(List.range V).map (fun (j:Nat)=>if j<k then (j:Int) else 0))).pl.set (k+1) (k:Int) }:SS).hp.length=k:=by simp [ini,newS]
     rw [e] at this; exact this)
    clear hslv h4 hc4 hW4 hpl hk1
    go_upto_region 7 with fail
    rw [HW4.out]
    clear cpl fpl c13
    go_wp2_with (first | (at_builtin; refine wpList_append_loc _ rfl (.tmp 52) (.tmp 54) _ rfl 0 3 i0 _ 1 8 Tryz.underlying40 HI.out.1 HI.out.2.1 HI.out.2.2.1 HI.out.2.2.2 rfl (by omega) (.slice Ah k ch) k (kVals ((List.range k).map (·+1))) rfl HROW.out (W4.heap.size+1) (some ⟨W4.heap.size,0,none⟩) 1 1 [.int .i64 (k1:Int)] rfl (reads_new (by simp) (by simp) rfl) (by intro u hu; rw [List.mem_singleton.1 hu]; rfl) (le_maxLen (by omega)) (le_bytes (by omega) (by omega)) (by simp) ?_; intro A6 c6 w6 hown6 hg6 hl6; have hb6:=(H4.out.alloc (.cells #[.int .i64 (k1:Int)] 3)).blk.grown hg6 (own_blk_ne HROW.out (H4.out.alloc (.cells #[.int .i64 (k1:Int)] 3)).blk (by decide)).symm; have c126:w6.cell? ⟨p,12,none⟩=some (.slice Ah k ch):=hb6.cell 12; have f126:w6.frozen? ⟨p,12,none⟩=false:=hb6.frozen 12; have HOWN6:=Lib.hid hown6; have HG6:=Lib.hid hg6; have HL6:=Lib.hid hl6; clear hown6 hg6 hl6 hb6) | fail)
    go_roundw
    case rel=>
     have hown6:=HOWN6.out
     rw [← HK1.out] at hown6
     have hown7:w6.ownsRow 0 3 1 (.slice A6 (k+1) c6) (k+1) (kVals ((List.range (k+1)).map (·+1))):=by
      rw [← hp_step,← k_snoc]; exact hown6
     obtain ⟨tag7,hr7,hc7,h7⟩:=(H4.out.alloc (.cells #[.int .i64 (k1:Int)] 3)).heapUp (l':=(List.range (k+1)).map (·+1)) hown7 (by simp) HG6.out HL6.out
     obtain ⟨y7,h8⟩:∃ y7,Slv (w6.setCell ⟨p,12,none⟩ (.slice A6 (k+1) c6)) tag7 p V y7 (ini V ((List.range (k+1)).map (·+1)) (0::(List.range V).map (fun (j:Nat)=>if j<k+1 then (j:Int) else 0))):=by
      refine Exists.intro ?_ ?_
      rotate_left
      ·rw [← pl_step hkV]
       exact h7
     refine ⟨k+1,tag7,y7,by omega,by rw [← HK1.out]; go_num,fun g hg=>(hr7 g (by have:=HB.out.size; have:=HC4.out.size; simp; omega)).trans (HTAG.out g hg),?_,h8⟩
     ·have hc:Cg tag (Fr 16) wr (w6.setCell ⟨p,12,none⟩ (.slice A6 (k+1) c6)):=(HC4.out.trans (cg_new ((Below.refl _ _).alloc (Nat.le_refl _) (.cells #[.int .i64 (k1:Int)] 3)))).trans hc7
      exact HB.out.trans (hc.below_ (fun g hg h9=>by rw [HTAG.out g hg] at h9; exact absurd h9.1 (by decide)) HB.out.size)
    case measure=>have:=HK1.out; simp [intOf]; omega
   ·as_aux_lemma=>
    obtain rfl:k=V:=by omega
    have c31':wr.cell? ⟨w.heap.size,1,none⟩=some (.slice A n c):=((K1.out.below HB.out K1.out.lt)).cell 1
    have hno:¬ ((k+1:Nat):Int)≤(k:Int):=by omega
    have hbw:Below w.heap.size w wr:=HB1.out.trans (HB.out.mono HB1.out.size)
    have HST2:=Lib.hid (show NwC w p k n F sF (.int .i64 ((0:Nat):Int)) wr from ⟨0,newS k,tag,_,Nat.zero_le _,rfl,HCR.out.2.2.2,fun g hg=>HTAG.out g (by have:=HB1.out.size; omega),hbw,by
     have e:(0::(List.range k).map (fun (j:Nat)=>if j<k then (j:Int) else 0))=0::(List.range k).map (fun (j:Nat)=>(j:Int)):=by
      congr 1
      apply List.map_congr_left
      intro j hj
      rw [if_pos (List.mem_range.1 hj)]
     rw [← newS_ini,← e]; exact HSL.out⟩)
    clear hslv hkV hbw HSL HTAG HB
    go_wp2_with fail
    go_loopw [61] (fun iv wx=>NwC w p k n F sF iv wx) (fun iv _=>n-(intOf iv).toNat)
    case atStart=>exact HST2.out
    case round=>
     clear HST2 c31'
     obtain ⟨i,s1,tag1,y1,hi,e1,hu,htag,hb,hs⟩:=hrel
     subst e1
     by_cases hin:i<n
     ·as_aux_lemma=>
      obtain ⟨l,hl⟩:∃ l,F[i]? = some l:=⟨_,List.getElem?_eq_getElem (by have:=HCR.out.2.2.1; omega)⟩
      obtain ⟨ga,ul,hA,hga,hcu,hou⟩:=(HCR.out.1.below hb) i l hl
      obtain ⟨Al,cl,hul⟩:=own_form hou
      subst hul
      subst hA
      obtain ⟨m0,hm0⟩:∃ m0,l.length=m0:=⟨_,rfl⟩
      rw [hm0] at hcu hou
      have hll:=HCR.out.2.1 l (List.mem_of_getElem? hl)
      rw [hm0] at hll
      have hiI:(i:Int)<(n:Int):=by omega
      have wi:IntKind.i64.wrap ((i:Int)+1)=((i+1:Nat):Int):=by rw [IntKind.wrap_i64]; omega
      have hdrop:F.drop i=l::F.drop (i+1):=by
       obtain ⟨a1,a2⟩:=List.getElem?_eq_some_iff.1 hl
       rw [List.drop_eq_getElem_cons a1,a2]
      rw [hdrop] at hu
      unfold addAll at hu
      split at hu
      ·cases hu
      rename_i s2 hadd
      have HU:=Lib.hid hu
      have HTAG:=Lib.hid htag
      have HB:=Lib.hid hb
      obtain ⟨j0,hj0,hjz0,hjz1,hjz2⟩:=info_parts info_int
      have HJ:=Lib.hid (And.intro hj0 (And.intro hjz0 (And.intro hjz1 hjz2)))
      clear hj0 hjz0 hjz1 hjz2
      by_cases hz0:m0=0
      ·subst hz0
       obtain rfl:l=[]:=List.length_eq_zero_iff.1 hm0
       have fin:∀ (w5 w6:World) (e:Ending),Below wr.heap.size wr w5→AdP w5 tag1 p k none s2 e w6→e = .returned (.tuple #[])∧NwC w p k n F sF (.int .i64 ((i+1:Nat):Int)) w6:=fun w5 w6 e hb5 h=>by
        obtain ⟨e1,tag',y',h1,h2,h3⟩:=h
        refine ⟨e1,i+1,s2,tag',y',hin,rfl,HU.out,fun g hg=>(h1 g (by have:=HB.out.size; have:=hb5.size; omega) (by simp)).trans (HTAG.out g hg),?_,h3⟩
        have hw5:Below w.heap.size w w5:=HB.out.trans (hb5.mono HB.out.size)
        exact hw5.trans (h2.below_ (fun g hg h9=>by rw [HTAG.out g hg] at h9; exact absurd h9.1 (by decide)) hw5.size)
       have FIN:=Lib.hid fin
       cases Al with
       | none=>
        have CK:=Lib.hid (Tryz.slices_Clone_own_nil 0 cl wr)
        have CA:=Lib.hid (add_none' (A:=none) (cc:=0) hs hadd)
        clear fin hs hu htag hb hadd hou hl hdrop hm0 HU
        go_wp2_with fail
        refine CK.out.mono ?_
        rintro e w5 ⟨rfl,hw5⟩
        subst hw5
        go_wp2_with fail
        refine CA.out.mono ?_
        rintro e w6 h6
        obtain ⟨rfl,h7⟩:=FIN.out _ w6 e (Below.refl _ _) h6
        have H7:=Lib.hid h7
        clear h6 h7
        go_wp2_with fail
        go_roundw
        case rel=>exact H7.out
        case measure=>simp [intOf]; omega
       | some ad=>
        obtain ⟨gl,hgl⟩:∃ gl,ad=⟨gl,0,none⟩:=by
         rcases hou.2 with ⟨h0,_⟩ | ⟨g',c',cur,hv',_⟩
         ·cases h0
         ·injection hv' with e1; injection e1 with e1; exact ⟨g',e1⟩
        subst hgl
        have CK:=Lib.hid (Tryz.slices_Clone_own j0 _ 1 8 HJ.out.1 HJ.out.2.1 HJ.out.2.2.1 HJ.out.2.2.2 rfl (by omega) Tryz.sizeOf3 gl 0 0 cl (litVals []) wr (by simp [litVals]) (by simp [maxLen]) (by omega) (fun j u hu=>by simp [litVals] at hu) (lits1' []))
        have HSL2:=Lib.hid hs
        have HADD:=Lib.hid hadd
        clear fin hs hu htag hb hadd hou hl hdrop hm0 HU
        go_wp2_with fail
        refine CK.out.mono ?_
        rintro e w5 ⟨v5,rfl,hown5,_,hb5⟩
        obtain ⟨A5,c5,rfl⟩:=own_form hown5
        have CA:=Lib.hid (add_none' (A:=A5) (cc:=c5) (HSL2.out.new hb5) HADD.out)
        have HB5:=Lib.hid hb5
        clear hown5 hb5
        go_wp2_with fail
        refine CA.out.mono ?_
        rintro e w6 h6
        obtain ⟨rfl,h7⟩:=FIN.out _ w6 e HB5.out h6
        have H7:=Lib.hid h7
        clear h6 h7
        go_wp2_with fail
        go_roundw
        case rel=>exact H7.out
        case measure=>simp [intOf]; omega
      ·obtain ⟨gl,cl2,hvl,_,_⟩:=hou.form (by omega)
       injection hvl with q1 _ q3
       subst q1
       subst q3
       have hcells:∀ j u,(litVals l)[j]? = some u→wr.cell? ⟨gl,0+j,none⟩=some u:=fun j u hu=>by
        have hr9:Row wr (fun _=>(18,0)) (18,0) 0 3 (.slice (some ⟨gl,0,none⟩) (litVals l).length cl) (litVals l):=⟨by rw [litVals_len,hm0]; exact hou,fun _ _=>rfl⟩
        rw [Nat.zero_add]
        exact hr9.cell hu
       have CK:=Lib.hid (Tryz.slices_Clone_own j0 _ 1 8 HJ.out.1 HJ.out.2.1 HJ.out.2.2.1 HJ.out.2.2.2 rfl (by omega) Tryz.sizeOf3 gl 0 m0 cl (litVals l) wr (by rw [litVals_len,hm0,Nat.mul_one]) (le_maxLen4 (by omega)) (le_bytes4 (by omega) (by omega)) hcells (lits1' l))
       have HSL2:=Lib.hid hs
       have HADD:=Lib.hid hadd
       have HM0:=Lib.hid hm0
       have HLL:=Lib.hid hll.2
       have hm06:m0≤1000000:=hll.1
       clear hs hu htag hb hadd hou hl hdrop hm0 hll hcells
       go_wp2_with fail
       refine CK.out.mono ?_
       rintro e w5 ⟨v5,rfl,hown5,_,hb5⟩
       obtain ⟨g5,c5,hv5,hg5,hlt5⟩:=hown5.form (by omega)
       subst hv5
       have hre5:Re wr tag1 (put tag1 g5 (18,0)):=re_put hg5
       have hr5:Row w5 (put tag1 g5 (18,0)) (18,0) wr.heap.size 3 (.slice (some ⟨g5,0,none⟩) m0 c5) (litVals l):=
        ⟨by rw [litVals_len,HM0.out]; exact hown5,fun g' hg'=>by injection hg' with hg'; subst hg'; exact put_same _ _ _⟩
       have CA:=Lib.hid (add_any ((HSL2.out.re hre5).new hb5) HADD.out (by omega) HM0.out (by omega) hm06 HLL.out hr5)
       have HB5:=Lib.hid hb5
       have HG5:=Lib.hid hg5
       have HRE5:=Lib.hid hre5
       clear hown5 hb5 hg5 hlt5 hre5 hr5
       go_wp2_with fail
       refine CA.out.mono ?_
       rintro e w6 ⟨rfl,tag',y',h1,h2,h3⟩
       have H7:=Lib.hid (show NwC w p k n F sF (.int .i64 ((i+1:Nat):Int)) w6 from by
        have hw5:Below w.heap.size w w5:=HB.out.trans (HB5.out.mono HB.out.size)
        have ht5:∀ g,g<w.heap.size→put tag1 g5 (18,0) g=(0,0):=fun g hg=>(HRE5.out g (by have:=HB.out.size; omega)).trans (HTAG.out g hg)
        refine ⟨i+1,s2,tag',y',hin,rfl,HU.out,fun g hg=>(h1 g (by have:=hw5.size; omega) (fun e=>by injection e with e; have:=HG5.out; have:=HB.out.size; omega)).trans (ht5 g hg),?_,h3⟩
        exact hw5.trans (h2.below_ (fun g hg h9=>by rw [ht5 g hg] at h9; exact absurd h9.1 (by decide)) hw5.size))
       clear h1 h2 h3
       go_wp2_with fail
       go_roundw
       case rel=>exact H7.out
       case measure=>simp [intOf]; omega
     ·obtain rfl:i=n:=by omega
      rw [List.drop_eq_nil_of_le (by rw [HCR.out.2.2.1]; exact Nat.le_refl _)] at hu
      unfold addAll at hu
      injection hu with hu
      subst hu
      have HE:=Lib.hid (show NwP w k s1 (.returned (.pointer (some ⟨p,0,none⟩))) wr from ⟨p,tag1,y1,rfl,htag,hb,hs⟩)
      clear htag hb hs
      go_wp2_with fail
      go_ret
      exact HE.out
end
end Go.Proofs.YthkhfbofhdfdoaaGreatDoor.slv
