/- Plain laws and walks for the law WordSums; no condition. -/
import Derived.Test.YthkhfbofhdfdoaaGreatDoorNl
import Derived.Deep.LoopGhost
import Derived.Lib.AppendZeros
import Derived.ArgAppend
namespace Go.Proofs.YthkhfbofhdfdoaaGreatDoor.slv
open Go.RowKit
section
variable {w:World} {tag:Nat→Tag} {p V:Nat} {y:SLay} {s:SS}
def BkR (w:World) (tag:Nat→Tag) (p V:Nat) (y:SLay) (s:SS) (suf:List Int) (sF:SS) (iv:Value) (wr:World):Prop:=
 ∃ i s1 tag1 y1,iv = .int .i64 (i:Nat)∧i≤suf.length∧backL V (suf.drop i) s1=some sF∧Slv wr tag1 p V y1 s1∧y1.vt=y.vt∧y1.vL=y.vL∧Re w tag tag1∧Cg tag (Fr 16) w wr∧s1.tr=s.tr∧s1.lm=s.lm
theorem upL_keeps {v:Nat}:∀ {f i:Nat} {s s':SS},upL v f i s=some s'→s'.tr=s.tr∧s'.lm=s.lm
 | 0,_,_,_,h=>by cases h
 | f+1,i,s,s',h=>by
  unfold upL at h
  split at h
  ·injection h with h; subst h; exact ⟨rfl,rfl⟩
  ·split at h
   ·cases h
   ·split at h
    ·split at h
     ·have:=upL_keeps h
      exact this
     ·injection h with h; subst h; exact ⟨rfl,rfl⟩
    ·cases h
theorem upM_keeps {V i:Nat} {s s':SS} (h:upM V s i=some s'):s'.tr=s.tr∧s'.lm=s.lm:=by
 unfold upM at h
 split at h
 ·cases h
 ·split at h
  ·exact upL_keeps h
  ·cases h
attribute [local irreducible] wpSeq wpMv
set_option maxRecDepth 100000 in
set_option maxHeartbeats 8000000 in
theorem back_any {s':SS} {lev:Nat} (h:Slv w tag p V y s) (hu:backM V s lev=some s') (hV:V≤400000) (hlev:lev≤1000000) (htb:s.tr.length≤1000000) :
  Calls Tryz.prog 50 #[.pointer (some ⟨p,0,none⟩),.int .i64 (lev:Nat)] w (StS w tag p V s'):=by
 obtain ⟨i0,hi0,hz0,hz1,hz2⟩:=info_parts info_int
 have HI:=Lib.hid (And.intro hi0 (And.intro hz0 (And.intro hz1 hz2)))
 clear hi0 hz0 hz1 hz2
 obtain ⟨nl,hnl⟩:∃ nl,s.lm.length=nl:=⟨_,rfl⟩
 obtain ⟨nt,hnt⟩:∃ nt,s.tr.length=nt:=⟨_,rfl⟩
 rw [hnt] at htb
 obtain ⟨vC,rows,gw,wrows,gv,gl,gr,vt,vL,gs,gp,vh,gP,vP,prows⟩:=y
 obtain ⟨AL,cL,hvL⟩:=h.lim.form
 rw [kVals_len,hnl] at hvL
 dsimp only at hvL
 subst hvL
 have c7:w.cell? ⟨p,7,none⟩=some (.slice AL nl cL):=h.blk.cell 7
 unfold backM at hu
 rw [hnl,hnt] at hu
 by_cases hle:nl≤lev
 ·rw [if_pos hle] at hu
  injection hu with hu
  subst hu
  have hd:decide ((nl:Int)≤(lev:Int))=true:=decide_eq_true (by omega)
  have hd2:decide (nl≤lev)=true:=decide_eq_true hle
  have HE:=Lib.hid (show StS w tag p V s (.returned (.tuple #[])) w from ⟨rfl,tag,_,Re.refl _ _,Chg.refl _ w,h⟩)
  clear h hle
  go_enter Tryz.func50,Tryz.ntmps50
  go_wp2_with fail
  go_end0
  exact HE.out
 ·rw [if_neg hle] at hu
  split at hu
  ·cases hu
  rename_i m hm
  split at hu
  case isFalse=>cases hu
  rename_i hmt
  split at hu
  ·cases hu
  rename_i sF hbl
  injection hu with hu
  subst hu
  have hd:decide ((nl:Int)≤(lev:Int))=false:=decide_eq_false (by omega)
  have hd2:decide (nl≤lev)=false:=decide_eq_false hle
  obtain ⟨gL,cL',hvL',_,hcelL⟩:=h.lim.at_ (by rw [kVals_len,hnl]; omega)
  rw [kVals_len,hnl] at hvL'
  dsimp only at hvL'
  injection hvL' with e1 _ e3
  subst e1
  subst e3
  have cm:w.cell? ⟨gL,lev,none⟩=some (.int .i64 (m:Nat)):=hcelL.cell (k_at hm)
  obtain ⟨gt,ct,hvt,_,hcelt⟩:=h.trl.at_ (by rw [litVals_len,hnt]; omega)
  rw [litVals_len,hnt] at hvt
  dsimp only at hvt
  subst hvt
  have c6:w.cell? ⟨p,6,none⟩=some (.slice (some ⟨gt,0,none⟩) nt ct):=h.blk.cell 6
  have hct:nt≤ct:=by
   rcases h.trl.own.2 with ⟨h0,h1⟩ | ⟨g',c',cur,hv',_,_,hle,_⟩
   ·cases h0
   ·rw [litVals_len,hnt] at hle; injection hv' with _ _ e3; omega
  have hcL:nl≤cL:=by
   rcases h.lim.own.2 with ⟨h0,h1⟩ | ⟨g',c',cur,hv',_,_,hle,_⟩
   ·cases h0
   ·rw [kVals_len,hnl] at hle; injection hv' with _ _ e3; omega
  have hlI:(lev:Int)<(nl:Int):=by omega
  have l1:(m:Int)≤(nt:Int):=by omega
  have l2:m≤nt:=by omega
  have l3:(nt:Int)≤(ct:Int):=by omega
  obtain ⟨suf,hsuf⟩:∃ suf,s.tr.drop m=suf:=⟨_,rfl⟩
  have hsl:suf.length=nt-m:=by rw [← hsuf,List.length_drop,hnt]
  rw [hsuf] at hbl
  have HST:=Lib.hid (show ∀ k,BkR w tag p V ⟨vC,rows,gw,wrows,gv,gl,gr,.slice (some ⟨gt,0,none⟩) nt ct,.slice (some ⟨gL,0,none⟩) nl cL,gs,gp,vh,gP,vP,prows⟩ s suf sF (.int .i64 ((0:Nat):Int)) (w.drewN k) from fun k=>⟨0,s,tag,_,rfl,Nat.zero_le _,by rw [List.drop_zero]; exact hbl,h.drewN k,rfl,rfl,Re.refl _ _,cg_new (below_drewN (Below.refl _ w) k),rfl,rfl⟩)
  have HSUF:=Lib.hid (And.intro hsuf hsl)
  have HNT:=Lib.hid (And.intro hnt (And.intro hnl hm))
  clear h hsuf hsl hnt hnl hm hcelL hcelt hbl hle
  go_enter Tryz.func50,Tryz.ntmps50
  go_upto_region 1 with fail
  go_quiet (fail)
  obtain ⟨ns,hns⟩:∃ ns,nt-m=ns:=⟨_,rfl⟩
  rw [hns]
  have HNS:=Lib.hid (show suf.length=ns∧m+ns=nt from ⟨by rw [HSUF.out.2]; exact hns,by omega⟩)
  have HSTQ:=Lib.hid (HST.out nq)
  clear hns HST c6 c7 cm
  go_wp2_with fail
  go_loopw [27,5,6] (fun iv _ _ wr=>BkR w tag p V ⟨vC,rows,gw,wrows,gv,gl,gr,.slice (some ⟨gt,0,none⟩) nt ct,.slice (some ⟨gL,0,none⟩) nl cL,gs,gp,vh,gP,vP,prows⟩ s suf sF iv wr) (fun iv _ _ _=>suf.length-(intOf iv).toNat)
  case atStart=>exact HSTQ.out
  case round=>
   clear HSTQ
   obtain ⟨i,s1,tag1,y1,e1,hi,hbl,hs,hyt,hyL,hre,hcg,htr,hlm⟩:=hrel
   subst e1
   obtain ⟨vC1,rows1,gw1,wrows1,gv1,gl1,gr1,vt1,vL1,gs1,gp1,vh1,gP1,vP1,prows1⟩:=y1
   dsimp only at hyt hyL
   subst hyt
   subst hyL
   have HRE:=Lib.hid hre
   have HCG:=Lib.hid hcg
   have HTL:=Lib.hid (And.intro htr hlm)
   clear hre hcg
   rw [HNS.out.1] at hi
   by_cases hin:i<ns
   ·obtain ⟨n,hn⟩:∃ n,suf[i]? = some n:=⟨_,List.getElem?_eq_getElem (by have:=HNS.out.1; omega)⟩
    have hdrop:suf.drop i=n::suf.drop (i+1):=by
     obtain ⟨h1,h2⟩:=List.getElem?_eq_some_iff.1 hn
     rw [List.drop_eq_getElem_cons h1,h2]
    rw [hdrop] at hbl
    unfold backL at hbl
    split at hbl
    case h_2=>cases hbl
    rename_i x0 pv hx0 hpv
    have hnt1:s1.tr[m+i]? = some n:=by
     rw [htr]
     have:=hn
     rw [← HSUF.out.1,List.getElem?_drop] at this
     exact this
    have cn:wr.cell? ⟨gt,m+i,none⟩=some (.int .i64 n):=by
     have hlen:s1.tr.length=nt:=by rw [htr]; exact HNT.out.1
     obtain ⟨g',c',hvh',_,hcel⟩:=hs.trl.at_ (by rw [litVals_len,hlen]; omega)
     injection hvh' with e1 _ e3
     injection e1 with e1
     injection e1 with e1
     subst e1
     exact hcel.cell (lit_at hnt1)
    obtain ⟨v,hv⟩:∃ v,n.natAbs=v:=⟨_,rfl⟩
    rw [hv] at hbl hx0 hpv
    have hvV:v<V+1:=by have:=hs.vl; have:=(List.getElem?_eq_some_iff.1 hx0).1; omega
    have hvI:(v:Int)<(V:Int)+1:=by omega
    have HV:=Lib.hid (show n=(v:Int)∨n = -(v:Int) by omega)
    have hiI:(i:Int)<(ns:Int):=by omega
    have w4:IntKind.i64.wrap ((i:Int)+1)=((i+1:Nat):Int):=by have:=HNS.out.2; rw [IntKind.wrap_i64]; omega
    have c3:wr.cell? ⟨p,3,none⟩=some (.slice (some ⟨gv1,0,none⟩) (V+1) (V+1)):=hs.blk.cell 3
    have cv:wr.cell? ⟨gv1,v,none⟩=some (.int .i8 x0):=hs.val.cell (i8_at hx0)
    have fv:wr.frozen? ⟨gv1,v,none⟩=false:=hs.val.frozen v
    obtain ⟨h2,a2⟩:=hs.setVal v 0
    obtain ⟨W2,hW2⟩:∃ W2,wr.setCell ⟨gv1,v,none⟩ (.int .i8 0)=W2:=⟨_,rfl⟩
    dsimp only at h2 a2
    rw [hW2] at h2 a2
    have c13:W2.cell? ⟨p,13,none⟩=some (.slice (some ⟨gP1,0,none⟩) (V+1) (V+1)):=h2.blk.cell 13
    have cP:W2.cell? ⟨gP1,v,none⟩=some (.int .i64 pv):=h2.pla.cell (lit_at hpv)
    have H2:=Lib.hid h2
    have HA2:=Lib.hid (HCG.out.trans_ a2 HRE.out)
    have HW2:=Lib.hid hW2
    have HN:=Lib.hid hn
    clear hs h2 a2 hW2 hn hdrop hnt1 hx0 htr hlm hv
    obtain ⟨wy,hwy⟩:∃ wy,wr=wy:=⟨_,rfl⟩
    rw [hwy] at c3 cv fv HW2 HCG cn ⊢
    clear hwy
    go_upto_region 4 with fail
    go_cut [6] (fun vv wx=>vv = .int .i64 (v:Nat)∧wx=wy)
    case first=>
     rcases HV.out with hv | hv
     ·subst hv
      have wn:IntKind.i64.wrap (-(v:Int)) = -(v:Int):=by rw [IntKind.wrap_i64]; omega
      have hmx:max (v:Int) (-(v:Int))=(v:Int):=by omega
      go_wp2_with fail
      all_goals (go_meet; exact ⟨by go_num,rfl⟩)
     ·subst hv
      have wn:IntKind.i64.wrap (- -(v:Int))=(v:Int):=by rw [IntKind.wrap_i64]; omega
      have hmx:max (-(v:Int)) (v:Int)=(v:Int):=by omega
      go_wp2_with fail
      all_goals (go_meet; exact ⟨by go_num,rfl⟩)
    case rest=>
    obtain ⟨e6,hwc⟩:=hcut
    subst e6
    rw [hwc]
    clear hwc cn
    by_cases hp0:pv<0
    ·rw [if_pos hp0] at hbl
     split at hbl
     case isFalse=>cases hbl
     rename_i hhl'
     split at hbl
     ·cases hbl
     rename_i s2 hup
     have hd3:decide (pv<(0:Int))=true:=decide_eq_true hp0
     obtain ⟨hl,hhl⟩:∃ hl,s1.hp.length=hl:=⟨_,rfl⟩
     obtain ⟨Ah,ch,hvh⟩:=H2.out.hea.form
     dsimp only at hvh
     rw [kVals_len,hhl] at hvh
     subst hvh
     rw [hhl] at hhl' hup
     obtain ⟨W3,hW3⟩:∃ W3,W3=W2.alloc (.cells #[.int .i64 (v:Nat)] 3):=⟨_,rfl⟩
     have h3:=H2.out.alloc (.cells #[.int .i64 (v:Nat)] 3)
     have HO3:=Lib.hid (show (W2.alloc (.cells #[.int .i64 (v:Nat)] 3)).ownsRow 0 3 1 (.slice Ah hl ch) hl (kVals s1.hp) from by
      have:=h3.hea.own
      dsimp only at this
      rw [kVals_len,hhl] at this; exact this)
     have H3:=Lib.hid h3
     have c12:W2.cell? ⟨p,12,none⟩=some (.slice Ah hl ch):=H2.out.blk.cell 12
     have HHL:=Lib.hid hhl
     have HUP:=Lib.hid hup
     have HBL:=Lib.hid hbl
     clear h3 hhl hup hbl hp0 hW3
     go_upto_region 6 with fail
     rw [HW2.out]
     go_upto_region 7 with fail
     go_wp2_with (first | (at_builtin; refine wpList_append_loc _ rfl (.tmp 53) (.tmp 55) _ rfl 0 3 i0 _ 1 8 Tryz.underlying40 HI.out.1 HI.out.2.1 HI.out.2.2.1 HI.out.2.2.2 rfl (by omega) (.slice Ah hl ch) hl (kVals s1.hp) rfl HO3.out (W2.heap.size+1) (some ⟨W2.heap.size,0,none⟩) 1 1 [.int .i64 (v:Nat)] rfl (reads_new (by simp) (by simp) rfl) (by intro u hu; rw [List.mem_singleton.1 hu]; rfl) (le_maxLen4 (by omega)) (le_bytes4 (by omega) (by omega)) (by simp) ?_; intro A6 c6 w6 hown6 hg6 hl6; have hb6:=H3.out.blk.grown hg6 (own_blk_ne HO3.out H3.out.blk (by decide)).symm; have c612:w6.cell? ⟨p,12,none⟩=some (.slice Ah hl ch):=hb6.cell 12; have f612:w6.frozen? ⟨p,12,none⟩=false:=hb6.frozen 12; have l6:=hb6.lt; have HO6:=Lib.hid hown6; have HG6:=Lib.hid hg6; have HL6:=Lib.hid hl6; clear hown6 hg6 hl6 hb6) | fail)
     have hown6:=HO6.out
     rw [k_snoc] at hown6
     obtain ⟨tag7,hr7,hc7,h7⟩:=H3.out.heapUp hown6 (by rw [List.length_append,HHL.out]; rfl) HG6.out HL6.out
     obtain ⟨W7,hW7⟩:∃ W7,w6.setCell ⟨p,12,none⟩ (.slice A6 (hl+1) c6)=W7:=⟨_,rfl⟩
     rw [hW7] at hc7 h7 ⊢
     have hc07:=HA2.out.trans_ ((cg_new (tag:=tag1) (S:=Fr 16) ((Below.refl _ W2).alloc (Nat.le_refl _) (.cells #[.int .i64 (v:Nat)] 3))).trans hc7) HRE.out
     have hr07:Re w tag tag7:=fun b hb=>(hr7 b (by have:=HA2.out.size; simp; omega)).trans (HRE.out b hb)
     obtain ⟨h8',a8'⟩:=h7.setPla v (hl:Nat)
     have h8:=h8'.drew
     obtain ⟨W8,hW8⟩:∃ W8,(W7.setCell ⟨gP1,v,none⟩ (.int .i64 (hl:Nat))).drew=W8:=⟨_,rfl⟩
     have a8:=a8'.trans (cg_new (tag:=tag7) (S:=Fr 16) (below_drewN (Below.refl _ (W7.setCell ⟨gP1,v,none⟩ (.int .i64 (hl:Nat)))) 1))
     change Cg tag7 (Fr 16) W7 (W7.setCell ⟨gP1,v,none⟩ (.int .i64 (hl:Nat))).drew at a8
     rw [hW8] at h8 a8
     have c713:W7.cell? ⟨p,13,none⟩=some (.slice (some ⟨gP1,0,none⟩) (V+1) (V+1)):=h7.blk.cell 13
     have c712:W7.cell? ⟨p,12,none⟩=some (.slice A6 (hl+1) c6):=h7.blk.cell 12
     obtain ⟨q0,hq0⟩:∃ q,s1.pl[v]? = some q:=⟨_,List.getElem?_eq_getElem (by have:=H2.out.pll; dsimp only at this; omega)⟩
     have c7P:W7.cell? ⟨gP1,v,none⟩=some (.int .i64 q0):=h7.pla.cell (lit_at hq0)
     have f7P:W7.frozen? ⟨gP1,v,none⟩=false:=h7.pla.frozen v
     have c812:W8.cell? ⟨p,12,none⟩=some (.slice A6 (hl+1) c6):=h8.blk.cell 12
     have CU:=Lib.hid (up_any h8 HUP.out hV (by show (s1.hp++[v]).length≤1000000; rw [List.length_append,HHL.out]; simp; omega))
     have HA8:=Lib.hid (hc07.trans_ a8 hr07)
     have HR7:=Lib.hid hr07
     have HW8:=Lib.hid hW8
     have wl:IntKind.i64.wrap (((hl+1:Nat):Int)-1)=(hl:Int):=by rw [IntKind.wrap_i64]; omega
     have wl2:IntKind.i64.wrap (hl:Int)=(hl:Int):=by rw [IntKind.wrap_i64]; omega
     clear hown6 hr7 hc7 h7 hW7 hc07 hr07 h8' a8' h8 a8 hW8 hq0 HO6 HG6 HL6 HO3 H3 c612 f612 l6 c12
     refine wp_region_mv (S:=fun w'=>w'.cell? ⟨p,12,none⟩=some (.slice A6 (hl+1) c6)∧w'.cell? ⟨p,13,none⟩=some (.slice (some ⟨gP1,0,none⟩) (V+1) (V+1))) 12 [.f 0,.f 1,.f 2,.f 3,.f 4,.f 5,.f 6,.f 7,.f 8,.f 9,.f 10,.f 11,.t 12] (by kernel_rfl) (by kernel_rfl) (by kernel_rfl) (And.intro c712 c713) ?_
     iterate 12 (refine mv_take _ _ rfl (by kernel_rfl) (fun wv hv=>by obtain ⟨hv1,hv2⟩:=hv; go_simp; try with_reducible rfl) ?_; simp only [Act.put,List.getElem_toArray,List.getElem_cons_zero,List.getElem_cons_succ,List.setIfInBounds_toArray,List.set_cons_zero,List.set_cons_succ])
     refine mv_act _ rfl (fun K hK=>?_)
     go_simp
     go_simp
     refine hK _ _ (.inl rfl) ?_
     clear hK K
     refine mv_nil ?_
     go_upto_region 9 with fail
     rw [HW8.out]
     go_wp2_with fail
     refine CU.out.mono ?_
     rintro e w9 ⟨rfl,hcg9,hs9⟩
     have HNX:=Lib.hid (show BkR w tag p V ⟨vC,rows,gw,wrows,gv,gl,gr,.slice (some ⟨gt,0,none⟩) nt ct,.slice (some ⟨gL,0,none⟩) nl cL,gs,gp,vh,gP,vP,prows⟩ s suf sF (.int .i64 ((i+1:Nat):Int)) w9 from ⟨i+1,s2,tag7,_,rfl,by have:=HNS.out.1; omega,HBL.out,hs9,rfl,rfl,HR7.out,HA8.out.trans_ hcg9 HR7.out,(upM_keeps HUP.out).1.trans HTL.out.1,(upM_keeps HUP.out).2.trans HTL.out.2⟩)
     clear hcg9 hs9 c713 c712 c7P f7P c812
     go_wp2_with fail
     go_roundw
     case rel=>exact HNX.out
     case measure=>have:=HNS.out.1; simp [intOf]; omega
    ·rw [if_neg hp0] at hbl
     have hd3:decide (pv<(0:Int))=false:=decide_eq_false hp0
     have HNX:=Lib.hid (show BkR w tag p V ⟨vC,rows,gw,wrows,gv,gl,gr,.slice (some ⟨gt,0,none⟩) nt ct,.slice (some ⟨gL,0,none⟩) nl cL,gs,gp,vh,gP,vP,prows⟩ s suf sF (.int .i64 ((i+1:Nat):Int)) W2 from ⟨i+1,_,tag1,_,rfl,by have:=HNS.out.1; omega,hbl,H2.out,rfl,rfl,HRE.out,HA2.out,HTL.out.1,HTL.out.2⟩)
     clear hbl hp0
     go_upto_region 6 with fail
     rw [HW2.out]
     go_wp2_with fail
     go_roundw
     case rel=>exact HNX.out
     case measure=>have:=HNS.out.1; simp [intOf]; omega
   ·obtain rfl:i=ns:=by omega
    rw [List.drop_eq_nil_of_le (by rw [HNS.out.1]; exact Nat.le_refl _)] at hbl
    unfold backL at hbl
    injection hbl with hbl
    subst hbl
    have htl:s1.tr.length=nt:=by rw [htr]; exact HNT.out.1
    have hll:s1.lm.length=nl:=by rw [hlm]; exact HNT.out.2.1
    have c6:wr.cell? ⟨p,6,none⟩=some (.slice (some ⟨gt,0,none⟩) nt ct):=hs.blk.cell 6
    have f6:wr.frozen? ⟨p,6,none⟩=false:=hs.blk.frozen 6
    have c7:wr.cell? ⟨p,7,none⟩=some (.slice (some ⟨gL,0,none⟩) nl cL):=hs.blk.cell 7
    have cm:wr.cell? ⟨gL,lev,none⟩=some (.int .i64 (m:Nat)):=by
     obtain ⟨g',c',hvh',_,hcel⟩:=hs.lim.at_ (by rw [kVals_len,hll]; omega)
     injection hvh' with e1 _ e3
     injection e1 with e1
     injection e1 with e1
     subst e1
     exact hcel.cell (k_at (by rw [hlm]; exact HNT.out.2.2))
    obtain ⟨h4',a4'⟩:=hs.cutTrail (A:=some ⟨gt,0,none⟩) (n:=m) (c:=ct) (by rw [htl]) (by omega)
    have h4:=h4'.drew
    obtain ⟨W4,hW4⟩:∃ W4,(wr.setCell ⟨p,6,none⟩ (.slice (some ⟨gt,0,none⟩) m ct)).drew=W4:=⟨_,rfl⟩
    have a4:=a4'.trans (cg_new (tag:=tag1) (S:=Fr 16) (below_drewN (Below.refl _ (wr.setCell ⟨p,6,none⟩ (.slice (some ⟨gt,0,none⟩) m ct))) 1))
    change Cg tag1 (Fr 16) wr (wr.setCell ⟨p,6,none⟩ (.slice (some ⟨gt,0,none⟩) m ct)).drew at a4
    rw [hW4] at h4 a4
    have c47:W4.cell? ⟨p,7,none⟩=some (.slice (some ⟨gL,0,none⟩) nl cL):=h4.blk.cell 7
    have f47:W4.frozen? ⟨p,7,none⟩=false:=h4.blk.frozen 7
    obtain ⟨h5,a5⟩:=h4.cutLimits (A:=some ⟨gL,0,none⟩) (n:=lev) (c:=cL) (by rw [← hll]) (by show lev≤s1.lm.length; omega)
    obtain ⟨W5,hW5⟩:∃ W5,W4.setCell ⟨p,7,none⟩ (.slice (some ⟨gL,0,none⟩) lev cL)=W5:=⟨_,rfl⟩
    rw [hW5] at h5 a5
    have c56:W5.cell? ⟨p,6,none⟩=some (.slice (some ⟨gt,0,none⟩) m ct):=h5.blk.cell 6
    have f58:W5.frozen? ⟨p,8,none⟩=false:=h5.blk.frozen 8
    have c58:W5.cell? ⟨p,8,none⟩=some (.int .i64 (s1.hd:Nat)):=h5.blk.cell 8
    obtain ⟨h6,a6⟩:=h5.setHd m
    have HE:=Lib.hid (show StS w tag p V { s1 with tr:=s.tr.take m,lm:=s.lm.take lev,hd:=m } (.returned (.tuple #[])) (W5.setCell ⟨p,8,none⟩ (.int .i64 (m:Nat))) from ⟨rfl,tag1,_,HRE.out,HCG.out.trans_ ((a4.trans a5).trans a6) HRE.out,by
     have:=h6
     dsimp only at this
     rw [htr,hlm] at this
     exact this⟩)
    have HW4:=Lib.hid hW4
    have HW5:=Lib.hid hW5
    have l5:(m:Int)≤(ct:Int):=by omega
    have l6:m≤ct:=by omega
    have l7:(lev:Int)≤(cL:Int):=by omega
    have l8:lev≤cL:=by omega
    clear hs htr hlm htl hll h4' a4' h4 a4 h5 a5 h6 a6 hW4 hW5
    go_upto_region 11 with fail
    refine wp_region_mv (S:=fun w'=>w'.cell? ⟨p,6,none⟩=some (.slice (some ⟨gt,0,none⟩) nt ct)∧w'.cell? ⟨p,7,none⟩=some (.slice (some ⟨gL,0,none⟩) nl cL)∧w'.cell? ⟨gL,lev,none⟩=some (.int .i64 (m:Nat))) 15 [.f 0,.f 1,.f 2,.f 3,.f 4,.f 5,.f 6,.f 7,.f 8,.f 9,.f 10,.f 11,.f 12,.t 13,.f 14,.t 15] (by kernel_rfl) (by kernel_rfl) (by kernel_rfl) (And.intro c6 (And.intro c7 cm)) ?_
    iterate 13 (refine mv_take _ _ rfl (by kernel_rfl) (fun wv hv=>by obtain ⟨hv1,hv2,hv3⟩:=hv; go_simp; try with_reducible rfl) ?_; simp only [Act.put,List.getElem_toArray,List.getElem_cons_zero,List.getElem_cons_succ,List.setIfInBounds_toArray,List.set_cons_zero,List.set_cons_succ])
    refine mv_act _ rfl (fun K hK=>?_)
    go_simp
    go_simp
    refine hK _ _ (.inr ((And.intro c6 (And.intro c7 cm)))) ?_
    clear hK K
    iterate 1 (refine mv_take _ _ rfl (by kernel_rfl) (fun wv hv=>by obtain ⟨hv1,hv2,hv3⟩:=hv; go_simp; try with_reducible rfl) ?_; simp only [Act.put,List.getElem_toArray,List.getElem_cons_zero,List.getElem_cons_succ,List.setIfInBounds_toArray,List.set_cons_zero,List.set_cons_succ])
    refine mv_act _ rfl (fun K hK=>?_)
    go_simp
    go_simp
    refine hK _ _ (.inl rfl) ?_
    clear hK K
    refine mv_nil ?_
    go_upto_region 12 with fail
    rw [HW4.out]
    go_upto_region 13 with fail
    rw [HW5.out]
    go_wp2_with fail
    go_end0
    exact HE.out
end
end Go.Proofs.YthkhfbofhdfdoaaGreatDoor.slv
namespace Go.Proofs.YthkhfbofhdfdoaaGreatDoor.slv
open Go.RowKit
theorem downL_len {v:Nat}:∀ {f i:Nat} {s s':SS},downL v f i s=some s'→s'.hp.length=s.hp.length
 | 0,_,_,_,h=>by cases h
 | f+1,i,s,s',h=>by
  unfold downL at h
  split at h
  ·split at h
   ·cases h
   ·split at h
    ·cases h
    ·split at h
     ·split at h
      ·injection h with h; subst h; show (s.hp.set _ _).length=_; rw [List.length_set]
      ·have:=downL_len h
       rw [this]; show (s.hp.set _ _).length=_; rw [List.length_set]
     ·cases h
  ·injection h with h; subst h; show (s.hp.set _ _).length=_; rw [List.length_set]
theorem popM_len {V v:Nat} {s s':SS} (h:popM V s=some (v,s')):s'.hp.length≤s.hp.length∧v≤V:=by
 unfold popM at h
 split at h
 ·rename_i v0 l _ _
  split at h
  ·rename_i hv
   dsimp only at h
   split at h
   ·injection h with h
    injection h with h1 h2
    subst h1; subst h2
    exact ⟨by show (s.hp.take _).length≤_; rw [List.length_take]; omega,hv.1⟩
   ·split at h
    ·rename_i s2 hd
     injection h with h
     injection h with h1 h2
     subst h1; subst h2
     refine ⟨?_,hv.1⟩
     unfold downM at hd
     split at hd
     ·cases hd
     ·split at hd
      ·rw [downL_len hd]
       show ((s.hp.take _).set _ _).length≤_
       rw [List.length_set,List.length_take]; omega
      ·cases hd
    ·cases h
  ·cases h
 ·cases h
theorem setM_some {V:Nat} {s s':SS} {n b:Int} (h:setM V s n b=some s'):1≤n.natAbs∧n.natAbs≤V∧s.tr.length≤V∧s.lm.length≤V∧s'=setS s n b:=by
 unfold setM at h
 split at h
 ·rename_i hc
  injection h with h
  exact ⟨hc.1,hc.2.1,hc.2.2.1,hc.2.2.2,h.symm⟩
 ·cases h
section
variable {w:World} {tag:Nat→Tag} {p V:Nat} {y:SLay} {s:SS}
theorem setM_any {s':SS} {n b:Int} (h:Slv w tag p V y s) (hu:setM V s n b=some s') (hV:V≤400000):Calls Tryz.prog 54 #[.pointer (some ⟨p,0,none⟩),.int .i64 n,.int .i64 b] w (StS w tag p V s'):=by
 obtain ⟨h1,h2,h3,h4,rfl⟩:=setM_some hu
 exact set_any h h3 h4 ⟨by omega,by omega⟩ (by omega)
def DcR (w:World) (tag:Nat→Tag) (p V:Nat) (b:Bool) (s':SS) (k:Nat) (wr:World):Prop:=
 ∃ s1 tag1 y1,decL V k s1=some (b,s')∧Slv wr tag1 p V y1 s1∧Re w tag tag1∧Cg tag (Fr 16) w wr∧s1.hp.length≤1000000
def DcP (w:World) (tag:Nat→Tag) (p V:Nat) (b:Bool) (s:SS) (e:Ending) (w':World):Prop:=
 e = .returned (.bool b)∧∃ tag' y',Re w tag tag'∧Cg tag (Fr 16) w w'∧Slv w' tag' p V y' s
attribute [local irreducible] wpSeq wpMv
set_option maxRecDepth 100000 in
set_option maxHeartbeats 8000000 in
theorem decide_any {s':SS} {b:Bool} (h:Slv w tag p V y s) (hu:decideM V s=some (b,s')) (hV:V≤400000) (hh:s.hp.length≤1000000) :
  Calls Tryz.prog 51 #[.pointer (some ⟨p,0,none⟩)] w (DcP w tag p V b s'):=by
 obtain ⟨i0,hi0,hz0,hz1,hz2⟩:=info_parts info_int
 have HI:=Lib.hid (And.intro hi0 (And.intro hz0 (And.intro hz1 hz2)))
 clear hi0 hz0 hz1 hz2
 unfold decideM at hu
 have HST:=Lib.hid (show DcR w tag p V b s' (s.hp.length+1) w from ⟨s,tag,y,hu,h,Re.refl _ _,Chg.refl _ w,hh⟩)
 obtain ⟨n0,hn0⟩:∃ n0,s.hp.length+1=n0:=⟨_,rfl⟩
 rw [hn0] at HST
 clear h hu hh hn0
 go_enter Tryz.func51,Tryz.ntmps51
 go_wp2_with fail
 go_loopg [3] n0 (fun k _ wr=>DcR w tag p V b s' k wr)
 case atStart=>exact HST.out
 case round=>
  clear HST
  obtain ⟨s1,tag1,y1,hu,hs,hre,hcg,hh⟩:=hrel
  have HRE:=Lib.hid hre
  have HCG:=Lib.hid hcg
  clear hre hcg
  cases gk with
  | zero=>cases hu
  | succ f=>
  unfold decL at hu
  obtain ⟨hl,hhl⟩:∃ hl,s1.hp.length=hl:=⟨_,rfl⟩
  obtain ⟨Ah,ch,hvh⟩:=hs.hea.form
  rw [kVals_len,hhl] at hvh
  have c12:wr.cell? ⟨p,12,none⟩=some (.slice Ah hl ch):=by have:=hs.blk.cell 12; rw [hvh] at this; exact this
  rw [hhl] at hu
  by_cases hl0:hl=0
  ·subst hl0
   rw [if_pos rfl] at hu
   injection hu with hu
   injection hu with e1 e2
   subst e1
   subst e2
   have HE:=Lib.hid (show DcP w tag p V false s1 (.returned (.bool false)) wr from ⟨rfl,tag1,y1,HRE.out,HCG.out,hs⟩)
   clear hs hvh hhl
   go_wp2_with fail
   go_ret
   exact HE.out
  ·rw [if_neg hl0] at hu
   split at hu
   ·cases hu
   rename_i v s2 hpop
   have hd:decide (0<hl)=true:=decide_eq_true (by omega)
   have hdI:decide ((0:Int)<(hl:Int))=true:=decide_eq_true (by omega)
   obtain ⟨hl2,hvV⟩:=popM_len hpop
   have CP:=Lib.hid (pop_any hs hpop hV hh)
   have HHL:=Lib.hid (Nat.le_trans hl2 hh)
   have HU:=Lib.hid hu
   clear hs hvh hhl hpop hl2 hh hu
   go_wp2_with fail
   refine CP.out.mono ?_
   rintro e w1 ⟨rfl,tag2,y2,hr2,hc2,h2⟩
   have HR2:=Lib.hid (show Re w tag tag2 from fun b hb=>(hr2 b (by have:=HCG.out.size; omega)).trans (HRE.out b hb))
   have HC2:=Lib.hid (HCG.out.trans_ hc2 HRE.out)
   have hu:=HU.out
   split at hu
   ·cases hu
   rename_i x hx
   have hvI:(v:Int)<(V:Int)+1:=by omega
   obtain ⟨vC,rows,gw,wrows,gv,gl,gr,vt,vL,gs,gp,vh,gP,vP,prows⟩:=y2
   have c3:w1.cell? ⟨p,3,none⟩=some (.slice (some ⟨gv,0,none⟩) (V+1) (V+1)):=h2.blk.cell 3
   have cv:w1.cell? ⟨gv,v,none⟩=some (.int .i8 x):=h2.val.cell (i8_at hx)
   by_cases hx0:x=0
   ·subst hx0
    rw [if_neg (by simp)] at hu
    split at hu
    ·cases hu
    rename_i pb hpb
    split at hu
    ·cases hu
    rename_i s3 hset
    injection hu with hu
    injection hu with e1 e2
    subst e1
    subst e2
    split at hset
    case isFalse=>cases hset
    rename_i hlm
    obtain ⟨nt,hnt⟩:∃ nt,s2.tr.length=nt:=⟨_,rfl⟩
    obtain ⟨nl,hnl⟩:∃ nl,s2.lm.length=nl:=⟨_,rfl⟩
    obtain ⟨At,ct,hvt⟩:=h2.trl.form
    rw [litVals_len,hnt] at hvt
    dsimp only at hvt
    subst hvt
    obtain ⟨AL,cL,hvL⟩:=h2.lim.form
    rw [kVals_len,hnl] at hvL
    dsimp only at hvL
    subst hvL
    have c6:w1.cell? ⟨p,6,none⟩=some (.slice At nt ct):=h2.blk.cell 6
    have c7:w1.cell? ⟨p,7,none⟩=some (.slice AL nl cL):=h2.blk.cell 7
    rw [hnl] at hlm
    rw [hnt] at hset
    have H2:=Lib.hid h2
    have HSET:=Lib.hid hset
    have HPB:=Lib.hid hpb
    have HNL:=Lib.hid (And.intro hnl hlm)
    have ho7:((w1.alloc (.cells #[.int .i64 (nt:Nat)] 3)).drew).ownsRow 0 3 1 (.slice AL nl cL) nl (kVals s2.lm):=by
     have:=((h2.alloc (.cells #[.int .i64 (nt:Nat)] 3)).drew).lim.own
     rw [kVals_len,hnl] at this; exact this
    have HO7:=Lib.hid ho7
    clear h2 hr2 hc2 hx hpb hset hnt hnl ho7 HU
    go_upto_region 4 with fail
    clear cv c3
    refine wp_region_mv (S:=fun w'=>w'.cell? ⟨p,6,none⟩=some (.slice At nt ct)∧w'.cell? ⟨p,7,none⟩=some (.slice AL nl cL)) 14 [.f 0,.f 1,.f 2,.f 3,.f 4,.f 5,.f 6,.f 7,.f 8,.f 9,.t 10,.t 11,.t 12,.f 13,.t 14] (by kernel_rfl) (by kernel_rfl) (by kernel_rfl) (And.intro c6 c7) ?_
    iterate 10 (refine mv_take _ _ rfl (by kernel_rfl) (fun wv hv=>by obtain ⟨hv1,hv2⟩:=hv; go_simp; try with_reducible rfl) ?_; simp only [Act.put,List.getElem_toArray,List.getElem_cons_zero,List.getElem_cons_succ,List.setIfInBounds_toArray,List.set_cons_zero,List.set_cons_succ])
    refine mv_act _ rfl (fun K hK=>?_)
    go_simp
    go_simp
    refine hK _ _ (.inr ((And.intro ((H2.out.drew.alloc (.cells #[.int .i64 (nt:Nat)] 3)).blk.cell 6) ((H2.out.drew.alloc (.cells #[.int .i64 (nt:Nat)] 3)).blk.cell 7)))) ?_
    clear hK K
    refine mv_act _ rfl (fun K hK=>?_)
    refine step_append_loc _ rfl (.tmp 24) (.tmp 30) _ rfl 0 3 i0 _ 1 8 Tryz.underlying40 HI.out.1 HI.out.2.1 HI.out.2.2.1 HI.out.2.2.2 rfl (by omega) (.slice AL nl cL) nl (kVals s2.lm) rfl HO7.out (w1.heap.size+1) (some ⟨w1.heap.size,0,none⟩) 1 1 [.int .i64 (nt:Nat)] rfl (reads_new (by simp) (by simp) rfl) (by intro u hu; rw [List.mem_singleton.1 hu]; rfl) (le_maxLen4 (by have:=HNL.out.2; omega)) (le_bytes4 (by have:=HNL.out.2; omega) (by omega)) (by simp) ?_
    intro A6 c6' w6 hown6 hg6 hl6
    rw [k_snoc] at hown6
    have h40:=(H2.out.alloc (.cells #[.int .i64 (nt:Nat)] 3)).drew
    obtain ⟨tag6,hr6,hc6,hk6⟩:=h40.limit hown6 (by rw [List.length_append,HNL.out.1]; rfl) hg6 hl6
    have hb6:=h40.blk.grown hg6 (own_blk_ne HO7.out h40.blk (by decide)).symm
    have c66:w6.cell? ⟨p,6,none⟩=some (.slice At nt ct):=hb6.cell 6
    have c67:w6.cell? ⟨p,7,none⟩=some (.slice AL nl cL):=hb6.cell 7
    have f67:w6.frozen? ⟨p,7,none⟩=false:=hb6.frozen 7
    have l67:p<w6.heap.size:=hb6.lt
    have HC6:=Lib.hid (HC2.out.trans_ (((cg_new (tag:=tag2) (S:=Fr 16) ((Below.refl _ w1).alloc (Nat.le_refl _) (.cells #[.int .i64 (nt:Nat)] 3))).trans (cg_new (below_drewN (Below.refl _ (w1.alloc (.cells #[.int .i64 (nt:Nat)] 3))) 1))).trans hc6) HR2.out)
    have HR6:=Lib.hid (show Re w tag tag6 from fun b hb=>(hr6 b (by have:=HC2.out.size; simp; omega)).trans (HR2.out b hb))
    have HK6:=Lib.hid hk6
    clear hown6 hg6 hl6 h40 hr6 hc6 hk6 hb6
    refine hK _ _ (.inr ((And.intro c66 c67))) ?_
    clear hK K
    try simp only [Act.put,List.getElem_toArray,List.getElem_cons_zero,List.getElem_cons_succ,List.setIfInBounds_toArray,List.set_cons_zero,List.set_cons_succ]
    refine mv_act _ rfl (fun K hK=>?_)
    go_simp
    go_simp
    refine hK _ _ (.inr ((And.intro c66 c67))) ?_
    clear hK K
    iterate 1 (refine mv_take _ _ rfl (by kernel_rfl) (fun wv hv=>by obtain ⟨hv1,hv2⟩:=hv; go_simp; try with_reducible rfl) ?_; simp only [Act.put,List.getElem_toArray,List.getElem_cons_zero,List.getElem_cons_succ,List.setIfInBounds_toArray,List.set_cons_zero,List.set_cons_succ])
    refine mv_act _ rfl (fun K hK=>?_)
    go_simp
    go_simp
    refine hK _ _ (.inl rfl) ?_
    clear hK K
    refine mv_nil ?_
    go_upto_region 5 with fail
    obtain ⟨W7,hW7⟩:∃ W7,w6.setCell ⟨p,7,none⟩ (.slice A6 (nl+1) c6')=W7:=⟨_,rfl⟩
    rw [hW7] at HC6 HK6 ⊢
    clear hW7 c66 c67 f67 l67
    have c11:W7.cell? ⟨p,11,none⟩=some (.slice (some ⟨gp,0,none⟩) (V+1) (V+1)):=HK6.out.blk.cell 11
    have cp:W7.cell? ⟨gp,v,none⟩=some (.bool pb):=HK6.out.pha.cell (bool_at HPB.out)
    have CS:=Lib.hid (setM_any HK6.out HSET.out hV)
    have w2:IntKind.i64.wrap (-(v:Int)) = -(v:Int):=by rw [IntKind.wrap_i64]; omega
    cases pb with
    | true=>
     rw [if_pos rfl] at CS
     go_wp2_with fail
     refine CS.out.mono ?_
     rintro e w8 ⟨rfl,tag8,y8,hre8,hcg8,h8⟩
     have HE:=Lib.hid (show DcP w tag p V true s3 (.returned (.bool true)) w8 from ⟨rfl,tag8,y8,fun b hb=>(hre8 b (by have:=HC6.out.size; omega)).trans (HR6.out b hb),HC6.out.trans_ hcg8 HR6.out,h8⟩)
     clear hre8 hcg8 h8
     go_wp2_with fail
     go_ret
     exact HE.out
    | false=>
     rw [if_neg (by simp)] at CS
     go_wp2_with fail
     refine CS.out.mono ?_
     rintro e w8 ⟨rfl,tag8,y8,hre8,hcg8,h8⟩
     have HE:=Lib.hid (show DcP w tag p V true s3 (.returned (.bool true)) w8 from ⟨rfl,tag8,y8,fun b hb=>(hre8 b (by have:=HC6.out.size; omega)).trans (HR6.out b hb),HC6.out.trans_ hcg8 HR6.out,h8⟩)
     clear hre8 hcg8 h8
     go_wp2_with fail
     go_ret
     exact HE.out
   ·rw [if_pos hx0] at hu
    have hxb:(x != 0)=true:=by simp [hx0]
    have HNX:=Lib.hid (show DcR w tag p V b s' f w1 from ⟨s2,tag2,_,hu,h2,HR2.out,HC2.out,HHL.out⟩)
    clear h2 hr2 hc2 hx hu HU
    go_wp2_with fail
    go_roundg f
    case measure=>omega
    case rel=>exact HNX.out
end
end Go.Proofs.YthkhfbofhdfdoaaGreatDoor.slv
namespace Go.Proofs.YthkhfbofhdfdoaaGreatDoor.slv
open Go.RowKit
section
variable {w w' wr:World} {tag tag1:Nat→Tag} {p V:Nat} {y y1:SLay} {s s1:SS}
theorem Slv.setWc {g n c i:Nat} (h:Slv w tag p V y s) (hu:y.wrows[i]? = some (.slice (some ⟨g,0,none⟩) n c)) (hn:(s.wt i).length=n) (j k:Nat) :
  Slv (w.setCell ⟨g,j,none⟩ (.int .i64 (k:Nat))) tag p V y { s with wt:=upd s.wt i ((s.wt i).set j k) }∧Cg tag (Fr 16) w (w.setCell ⟨g,j,none⟩ (.int .i64 (k:Nat))):=by
 subst hn
 have h0:=h.wts i _ hu
 have hc:Cg tag (fun s=>s=(5,(i:Int))) w (w.setCell ⟨g,j,none⟩ (.int .i64 (k:Nat))):=cg_store (by show tag g=_; exact h0.tg g rfl) _
 have h1:Row w tag (5,(i:Int)) 0 3 (.slice (some ⟨g,0,none⟩) (kVals (s.wt i)).length c) (kVals (s.wt i)):=by rw [kVals_len]; exact h0
 have h2:=h1.set_ j (.int .i64 (k:Nat))
 have e:(kVals (s.wt i)).set j (.int .i64 (k:Nat))=kVals ((s.wt i).set j k):=by unfold kVals; rw [List.map_set]
 rw [e,kVals_len] at h2
 refine ⟨?_,hc.mono_ fun t e=>by subst e; exact ⟨by show 1≤5; decide,by show 5≤16; decide⟩⟩
 exact {
  blk:=h.blk.tchg h.tp hc (by simp)
  tp:=h.tp
  hdr:=h.hdr.chg hc (by simp)
  cls:=fun k x u hx hu=>(h.cls k x u hx hu).chg hc (by simp)
  whd:=h.whd.chg hc (by simp)
  wts:=fun j' u hu'=>by
    show Row _ tag (5,(j':Int)) 0 3 u (kVals (upd s.wt i ((s.wt i).set j k) j'))
    by_cases e:j'=i
    ·subst e
     rw [hu] at hu'
     injection hu' with hu'
     subst hu'
     unfold upd
     rw [if_pos rfl]
     exact h2
    ·unfold upd
     rw [if_neg e]
     exact (h.wts j' u hu').chg hc (by simp; omega)
  val:=h.val.chg hc (by simp)
  lev:=h.lev.chg hc (by simp)
  rea:=h.rea.chg hc (by simp)
  trl:=h.trl.chg hc (by simp)
  lim:=h.lim.chg hc (by simp)
  sco:=h.sco.chg hc (by simp)
  pha:=h.pha.chg hc (by simp)
  hea:=h.hea.chg hc (by simp)
  pla:=h.pla.chg hc (by simp)
  prf:=h.prf.chg hc (by simp)
  prc:=fun k x u hx hu=>(h.prc k x u hx hu).chg hc (by simp)
  rlen:=h.rlen
  wlen:=h.wlen
  vl:=h.vl
  ll:=h.ll
  rl:=h.rl
  sl:=h.sl
  phl:=h.phl
  pll:=h.pll
  plen:=h.plen
 }
structure SpM (w:World) (tag:Nat→Tag) (p V:Nat) (im:Nat) (l:List Nat) (lw:Value) (kept:List Nat) (wr:World) (tag1:Nat→Tag) (y1:SLay) (s1:SS):Prop where
 slv:Slv wr tag1 p V y1 { s1 with wt:=upd s1.wt im (kept++l.drop kept.length) }
 row:y1.wrows[im]? = some lw
 re:Re w tag tag1
 cg:Cg tag (Fr 16) w wr
 wl:s1.wt im=l
variable {im:Nat} {l kept:List Nat} {lw:Value}
theorem SpM.new (h:SpM w tag p V im l lw kept wr tag1 y1 s1) (hb:Below wr.heap.size wr w'):SpM w tag p V im l lw kept w' tag1 y1 s1:=
 ⟨h.slv.new hb,h.row,h.re,h.cg.trans (cg_new hb),h.wl⟩
theorem kept_len (hk:kept.length≤l.length):(kept++l.drop kept.length).length=l.length:=by rw [List.length_append,List.length_drop]; omega
theorem SpM.keep_ {g c k:Nat} (h:SpM w tag p V im l lw kept wr tag1 y1 s1) (hlw:lw = .slice (some ⟨g,0,none⟩) l.length c) (hk:kept.length<l.length) :
  SpM w tag p V im l lw (kept++[k]) (wr.setCell ⟨g,kept.length,none⟩ (.int .i64 (k:Nat))) tag1 y1 s1:=by
 have hr:=h.row
 rw [hlw] at hr
 obtain ⟨h1,a1⟩:=h.slv.setWc hr (by show (upd s1.wt im _ im).length=_; unfold upd; rw [if_pos rfl]; exact kept_len (by omega)) kept.length k
 refine ⟨?_,h.row,h.re,h.cg.trans_ a1 h.re,h.wl⟩
 have e:upd (upd s1.wt im (kept++l.drop kept.length)) im ((upd s1.wt im (kept++l.drop kept.length) im).set kept.length k)=upd s1.wt im ((kept++[k])++l.drop (kept++[k]).length):=by
  funext j
  unfold upd
  by_cases hj:j=im
  ·rw [if_pos hj,if_pos hj,if_pos rfl,List.set_append_right _ _ (Nat.le_refl _),Nat.sub_self,List.drop_eq_getElem_cons hk,List.set_cons_zero,List.length_append]
   simp
  ·rw [if_neg hj,if_neg hj,if_neg hj]
 have h2:=h1
 dsimp only at h2
 rw [e] at h2
 exact h2
theorem SpM.setX {k g m c:Nat} {x:List Int} (h:SpM w tag p V im l lw kept wr tag1 y1 s1) (hx:s1.xs[k]? = some x) (hu:y1.rows[k]? = some (.slice (some ⟨g,0,none⟩) m c)) (hm:x.length=m) (i:Nat) (z:Int) :
  SpM w tag p V im l lw kept (wr.setCell ⟨g,i,none⟩ (.int .i64 z)) tag1 y1 { s1 with xs:=s1.xs.set k (x.set i z) }:=by
 obtain ⟨h1,a1⟩:=h.slv.setX hx hu hm i z
 exact ⟨h1,h.row,h.re,h.cg.trans_ a1 h.re,h.wl⟩
theorem SpM.at_ {g c i k:Nat} (h:SpM w tag p V im l lw kept wr tag1 y1 s1) (hlw:lw = .slice (some ⟨g,0,none⟩) l.length c) (hk:kept.length≤i) (hi:l[i]? = some k):wr.cell? ⟨g,i,none⟩=some (.int .i64 (k:Nat)):=by
 have hr:=h.row
 rw [hlw] at hr
 have hlt:=(List.getElem?_eq_some_iff.1 hi).1
 have h1:=h.slv.wts im _ hr
 have e:({ s1 with wt:=upd s1.wt im (kept++l.drop kept.length) }:SS).wt im=kept++l.drop kept.length:=by show upd _ _ _ _=_; unfold upd; rw [if_pos rfl]
 rw [e] at h1
 obtain ⟨g',c',hv,_,hcel⟩:=h1.at_ (by rw [kVals_len,kept_len (by omega)]; omega)
 injection hv with e1 _ _
 injection e1 with e1
 injection e1 with e1
 subst e1
 exact hcel.cell (k_at (by rw [List.getElem?_append_right hk,List.getElem?_drop,show kept.length+(i-kept.length)=i by omega]; exact hi))
theorem SpM.spare {g c j:Nat} (h:SpM w tag p V im l lw kept wr tag1 y1 s1) (hlw:lw = .slice (some ⟨g,0,none⟩) l.length c) (hk:kept.length≤l.length) (hj:j<l.length):(wr.cell? ⟨g,j,none⟩).isSome=true∧wr.frozen? ⟨g,j,none⟩=false:=by
 have hr:=h.row
 rw [hlw] at hr
 have h1:=h.slv.wts im _ hr
 have e:({ s1 with wt:=upd s1.wt im (kept++l.drop kept.length) }:SS).wt im=kept++l.drop kept.length:=by show upd _ _ _ _=_; unfold upd; rw [if_pos rfl]
 rw [e] at h1
 obtain ⟨g',c',hv,_,hcel⟩:=h1.at_ (by rw [kVals_len,kept_len hk]; omega)
 injection hv with e1 _ _
 injection e1 with e1
 injection e1 with e1
 subst e1
 obtain ⟨u,hu⟩:∃ u,(kept++l.drop kept.length)[j]? = some u:=⟨_,List.getElem?_eq_getElem (by rw [kept_len hk]; exact hj)⟩
 exact ⟨by rw [hcel.cell (k_at hu)]; rfl,hcel.frozen j⟩
theorem SpM.lay {A:Option Addr} {c:Nat} (h:SpM w tag p V im l lw kept wr tag1 y1 s1) (hlw:lw = .slice A l.length c) (hk:kept.length≤l.length) :
  Slv (wr.setCell ⟨y1.gw,im,none⟩ (.slice A kept.length c)) tag1 p V { y1 with wrows:=y1.wrows.set im (.slice A kept.length c) } { s1 with wt:=upd s1.wt im kept }∧Cg tag (Fr 16) w (wr.setCell ⟨y1.gw,im,none⟩ (.slice A kept.length c)):=by
 have hr:=h.row
 rw [hlw] at hr
 have h1:=h.slv.wts im _ hr
 have e:({ s1 with wt:=upd s1.wt im (kept++l.drop kept.length) }:SS).wt im=kept++l.drop kept.length:=by show upd _ _ _ _=_; unfold upd; rw [if_pos rfl]
 rw [e] at h1
 have h2:=Row.cut (A:=A) (c:=c) (n:=kept.length) (xs:=kVals (kept++l.drop kept.length)) (by rw [kVals_len,kept_len hk]; exact h1) (by rw [kVals_len,kept_len hk]; exact hk)
 have e2:(kVals (kept++l.drop kept.length)).take kept.length=kVals kept:=by unfold kVals; rw [← List.map_take,List.take_left]
 rw [e2] at h2
 obtain ⟨h3,a3⟩:=h.slv.setW im h2
 refine ⟨?_,h.cg.trans_ a3 h.re⟩
 have e3:(fun j=>if j=im then kept else upd s1.wt im (kept++l.drop kept.length) j)=upd s1.wt im kept:=by
  funext j
  unfold upd
  by_cases hj:j=im
  ·rw [if_pos hj,if_pos hj]
  ·rw [if_neg hj,if_neg hj,if_neg hj]
 dsimp only at h3
 rw [e3] at h3
 exact h3
theorem SpM.keepAll {g c:Nat} (hlw:lw = .slice (some ⟨g,0,none⟩) l.length c):∀ (r:List Nat) {kept:List Nat} {wr:World},SpM w tag p V im l lw kept wr tag1 y1 s1→kept.length+r.length≤l.length→SpM w tag p V im l lw (kept++r) (wr.setCells g kept.length (kVals r)) tag1 y1 s1
 | [],kept,wr,h,_=>by rw [List.append_nil]; exact h
 | k::r,kept,wr,h,hl=>by
  simp only [List.length_cons] at hl
  have h2:=SpM.keepAll hlw r (h.keep_ hlw (k:=k) (by omega)) (by rw [List.length_append,List.length_singleton]; omega)
  rw [List.append_assoc,List.length_append] at h2
  exact h2
theorem SpM.push {A:Option Addr} {n c iy:Nat} {l':List Nat} {u0:Value} (h:SpM w tag p V im l lw kept wr tag1 y1 s1) (hne:iy≠im) (hu0:y1.wrows[iy]? = some u0) (ho:w'.ownsRow 0 3 1 (.slice A n c) n (kVals l')) (hl:l'.length=n) (hg:wr.grownBy w' u0.ownBlock)
  (hloc:(Value.slice A n c).ownBlock=u0.ownBlock∨(Value.slice A n c).ownBlock=some wr.heap.size) :
  ∃ tag',SpM w tag p V im l lw kept (w'.setCell ⟨y1.gw,iy,none⟩ (.slice A n c)) tag' { y1 with wrows:=y1.wrows.set iy (.slice A n c) } { s1 with wt:=upd s1.wt iy l' }:=by
 obtain ⟨tag',hr,hc,h1⟩:=h.slv.pushW hu0 ho hl hg hloc
 refine ⟨tag',?_,?_,fun b hb=>(hr b (by have:=h.cg.size; omega)).trans (h.re b hb),h.cg.trans_ hc h.re,?_⟩
 ·have e:(fun j=>if j=iy then l' else upd s1.wt im (kept++l.drop kept.length) j)=upd (upd s1.wt iy l') im (kept++l.drop kept.length):=by
   funext j
   unfold upd
   by_cases h1:j=iy
   ·rw [if_pos h1,if_neg (by omega),if_pos h1]
   ·rw [if_neg h1]
    by_cases h2:j=im
    ·rw [if_pos h2,if_pos h2]
    ·rw [if_neg h2,if_neg h2,if_neg h1]
  have h2:=h1
  dsimp only at h2
  rw [e] at h2
  exact h2
 ·show (y1.wrows.set iy _)[im]? = some lw
  rw [List.getElem?_set,if_neg hne]; exact h.row
 ·show upd s1.wt iy l' im=l
  unfold upd
  rw [if_neg (fun e=>hne e.symm)]; exact h.wl
theorem SpM.set_ {s2:SS} {n b:Int} (h:SpM w tag p V im l lw kept wr tag1 y1 s1) (hu:setM V s1 n b=some s2) (hV:V≤400000):Calls Tryz.prog 54 #[.pointer (some ⟨p,0,none⟩),.int .i64 n,.int .i64 b] wr fun e w2=>
  e = .returned (.tuple #[])∧∃ tag2 vt2,SpM w tag p V im l lw kept w2 tag2 { y1 with vt:=vt2 } s2:=by
 obtain ⟨h1,h2,h3,h4,rfl⟩:=setM_some hu
 refine (set_anyT h.slv h3 h4 (n:=n) (by_:=b) ⟨by omega,by omega⟩ (by omega)).mono ?_
 rintro e w2 ⟨rfl,tag2,vt2,hr,hc,hs⟩
 exact ⟨rfl,tag2,vt2,hs,h.row,fun b hb=>(hr b (by have:=h.cg.size; omega)).trans (h.re b hb),h.cg.trans_ hc h.re,h.wl⟩
end
set_option maxRecDepth 100000 in
theorem run_keep {w:World} {g m cu b k:Nat} (ty:TypeId) (hs:(w.cell? ⟨g,m,none⟩).isSome=true) (hf:w.frozen? ⟨g,m,none⟩=false) (hroom:m+1≤cu) (hb:w.cell? ⟨b,0,none⟩=some (.int .i64 (k:Nat))) :
  (Builtin.append_ #[40,40] ty #[.slice (some ⟨g,0,none⟩) m cu,.slice (some ⟨b,0,none⟩) 1 1]).run Tryz.prog w = .ok (.slice (some ⟨g,0,none⟩) (m+1) cu) (w.setCell ⟨g,m,none⟩ (.int .i64 (k:Nat))):=by
 obtain ⟨i0,hi0,hz0,hz1,hz2⟩:=info_parts info_int
 have h:=run_append_room_cells (P:=Tryz.prog) w 40 ty 3 i0 Tryz.underlying40 hi0 g 0 m cu ⟨b,0,none⟩ 1 1 [.int .i64 (k:Nat)] (by rw [hz1]; rfl) (fun j u hu=>by
  match j,hu with
  | 0,hu=>injection hu with hu; subst hu; exact hb) (by intro u hu; rw [List.mem_singleton.1 hu]; rfl) hroom (fun j hj=>by
  have:j=0:=by simpa using hj
  subst this
  rw [hz1]; simpa using hs) (fun j hj=>by
  have:j=0:=by simpa using hj
  subst this
  rw [hz1]; simpa using hf)
 rw [hz1] at h
 simpa [World.setCells] using h
set_option maxRecDepth 100000 in
theorem run_keepAll {w:World} {g m cu o q c':Nat} {r:List Nat} (ty:TypeId) (hq:r.length=q) (hs:∀ j,j<q→(w.cell? ⟨g,m+j,none⟩).isSome=true∧w.frozen? ⟨g,m+j,none⟩=false) (hroom:m+q≤cu) (hb:∀ j k,r[j]? = some k→w.cell? ⟨g,o+j,none⟩=some (.int .i64 (k:Nat))) :
  (Builtin.append_ #[40,40] ty #[.slice (some ⟨g,0,none⟩) m cu,.slice (some ⟨g,o,none⟩) q c']).run Tryz.prog w = .ok (.slice (some ⟨g,0,none⟩) (m+q) cu) (w.setCells g m (kVals r)):=by
 obtain ⟨i0,hi0,hz0,hz1,hz2⟩:=info_parts info_int
 have h:=run_append_room_cells (P:=Tryz.prog) w 40 ty 3 i0 Tryz.underlying40 hi0 g 0 m cu ⟨g,o,none⟩ q c' (kVals r) (by rw [hz1,kVals_len,hq,Nat.mul_one]) (fun j u hu=>by
  rw [Addr.add_lit]
  unfold kVals at hu
  rw [List.getElem?_map] at hu
  cases hj:r[j]? with
  | none=>rw [hj] at hu; cases hu
  | some k=>rw [hj] at hu; injection hu with hu; subst hu; exact hb j k hj) (fun u hu=>by
  unfold kVals at hu
  obtain ⟨x,_,rfl⟩:=List.mem_map.1 hu; rfl) hroom (fun j hj=>by
  rw [kVals_len,hq] at hj
  rw [hz1,Nat.mul_one,Nat.zero_add]; exact (hs j hj).1) (fun j hj=>by
  rw [kVals_len,hq] at hj
  rw [hz1,Nat.mul_one,Nat.zero_add]; exact (hs j hj).2)
 rw [hz1,Nat.mul_one,Nat.zero_add] at h
 exact h
end Go.Proofs.YthkhfbofhdfdoaaGreatDoor.slv
