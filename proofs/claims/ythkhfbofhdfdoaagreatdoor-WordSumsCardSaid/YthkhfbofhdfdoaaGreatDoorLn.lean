/- Plain laws and walks for the law WordSums; no condition. -/
import Derived.Test.YthkhfbofhdfdoaaGreatDoorBa
import Derived.Test.YthkhfbofhdfdoaaGreatDoorProg
import Derived.Test.YthkhfbofhdfdoaaGreatDoorCards
import Derived.Test.YthkhfbofhdfdoaaGreatDoorTie
import Derived.Deep.Grids
import Derived.WalkKit
import Derived.ProofKit
import Derived.OpenShut
import Derived.Deep.DeepHandedRow
import Derived.Deep.DeepWitnessRowRef
import Derived.Lib.LaidTab
import Derived.Lib.SmallJoins
import Derived.LaidMore
import Derived.LaidLaws
import Derived.LaidHandle
import Derived.LaidSub
import Derived.Stop.LaidErr
import Derived.Test.YthkhfbofhdfdoaaGreatDoorN4
import Derived.Test.YthkhfbofhdfdoaaGreatDoorAh
import Derived.Test.YthkhfbofhdfdoaaGreatDoorZe
import Derived.ChangeMaps5
import Derived.Deep.Matrix
import Derived.Test.YthkhfbofhdfdoaaGreatDoorGr
import Derived.LaidEql
import Derived.Stop.Asserts
import Derived.RowKitTokens
import Derived.Test.YthkhfbofhdfdoaaGreatDoorYn
import Derived.SliceStrings
namespace Go.Proofs.YthkhfbofhdfdoaaGreatDoor
open Go.ChangeShapes Go.WideShapes Go.ChangeAt Go.RowKit
theorem post_of_below {H:Type} {enc:TypeId×Value→H} {P:Program} {f:Func} {s:ChangeSpec} {apart fresh handsOn again:Bool} {W W':World} {args:Array Value} {v:Value} {ds gs:List (DataW H)} {before pa pv:List MemPlace}
  (hW:DataW.Whole enc P f.params.toList s.vars apart W args.toList ds gs before)
  (hres:∀ (b:Nat) (sp:Nat→Bool) (hd:Bool),DataW.TrodAll enc P W' b sp hd f.resultTypes.toList (v.resultList f.resultTypes.size) (s.fn H (ds++gs)).results [])
  (hargs:∀ sp:Nat→Bool,(∀ p∈before,sp p.block=true)→DataW.TrodAll enc P W' 0 sp true f.params.toList args.toList (s.fn H (ds++gs)).args pa)
  (hvars:∀ sp:Nat→Bool,(∀ p∈before,sp p.block=true)→DataW.TrodVars enc P W' sp s.vars (s.fn H (ds++gs)).vars pv)
  (hps:before=pa++pv) (hb:Below W.heap.size W W')
  (hok:∀ (j:Nat) (t:TypeId) (r:Value),f.resultTypes[j]? = some t→(v.resultList f.resultTypes.size)[j]? = some r→Value.okWide P W' .any 0 t r) :
  s.post enc P f apart fresh handsOn again W args v W':=by
 have hlt:∀ p∈before,p.block<W.heap.size:=fun p hp=>hW.lt p hp
 have hold:∀ p∈before,(fun b=>decide (b<W.heap.size)) p.block=true:=fun p hp=>by simpa using hlt p hp
 refine ⟨ds,gs,before,[],pa,pv,hW,hres _ _ _,hargs _ hold,hvars _ hold,World.keptBut_mono (fun p hp=>⟨hp,?_⟩) (hb.frame (·∈before)),fun _=>?_⟩
 ·rw [hps,List.mem_append] at hp
  exact Or.inr hp
 ·obtain ⟨_,_,_,_,_,hz,hn⟩:=hW
  refine ⟨hok,_,_,([]++pa)++pv,⟨[]++pa,pv,trodAll_append (hargs _ (fun _ _=>rfl)) (hres _ _ _),hvars _ (fun _ _=>rfl),rfl,?_,?_⟩,?_⟩
  ·intro b off hp
   have hin:MemPlace.cell b off∈before:=by rw [hps]; simpa using hp
   rw [hb.frozen (hlt _ hin)]
   exact hz b off hin
  ·intro ha
   have:=hn ha
   rw [hps] at this
   simpa using this
  ·intro p hp _
   rw [hps]
   simpa using hp
theorem laidVars_mem {P:Program} {w:World} {n:String} {d:DataW Unit}:∀ {l:List (String×DataW Unit)} {ps:List MemPlace},DataW.LaidVars P w l ps→(n,d)∈l →
  ∃ g t cs fuel p,P.globalNamed n=some g∧(P.globals[g]?).map (·.type)=some t∧w.var? P n=some cs∧DataW.trod (fun _=>()) P w 0 (fun _=>true) false fuel t cs.toList=some (d,p) ∧
   ∀ x∈MemPlace.row ⟨g,0,none⟩ cs.size++p,x∈ps
 | [],_,_,hm=>by cases hm
 | (n',d')::r,ps,h,hm=>by
  obtain ⟨g,t,cs,fuel,p,q,e1,e2,e3,e4,hr,rfl⟩:=h
  rcases List.mem_cons.1 hm with he | hm'
  ·obtain ⟨rfl,rfl⟩:=Prod.mk.inj he
   exact ⟨g,t,cs,fuel,p,e1,e2,e3,e4,fun x hx=>List.mem_append_left _ hx⟩
  ·obtain ⟨g',t',cs',f',p',k1,k2,k3,k4,k5⟩:=laidVars_mem hr hm'
   exact ⟨g',t',cs',f',p',k1,k2,k3,k4,fun x hx=>List.mem_append_right _ (k5 x hx)⟩
def sentD (text:List UInt8):DataW Unit:=.iface "*errors.errorString" (.ptr (.agg [.lit (.string text)]))
theorem sentD_plain (text:List UInt8):(sentD text).handleName?.isNone=true:=by
 unfold sentD DataW.handleName?
 simp
theorem own:ownKnob Tryz.prog.godebug=none:=by kernel_rfl
theorem star : "*" ++ "errors.errorString" = "*errors.errorString" := by decide
theorem hStr (u:TypeId) (h:Tryz.prog.typeName? 3 u=some "*errors.errorString"):u=162:=typeName_ptr_named (nm := "errors.errorString") (by rw [star]; kernel_rfl) (by kernel_rfl) (by decide) u (by rw [star]; exact h)
theorem cES:Tryz.prog.cellsOf 178=1:=by kernel_rfl
theorem cS:Tryz.prog.cellsOf 9=1:=by kernel_rfl
theorem sent_any {P:Program} {W:World} {l:List (String×DataW Unit)} (h:laidMetH P l W) {n:String} {text:List UInt8} {g ti tp te ts:Nat} {ms:Array (String×TypeId)} {f:Field} (hm:(n,sentD text)∈l)
  (hg:P.globalNamed n=some g) (ht:(P.globals[g]?).map (·.type)=some ti) (hi:P.underlying ti=some (.interface ms)) (hrow:∀ u,P.typeName? 3 u=some "*errors.errorString" → u=tp)
  (hp:P.underlying tp=some (.pointer te)) (he:P.underlying te=some (.struct #[f])) (hft:f.type=ts) (hfo:f.offset=0) (hs:P.underlying ts=some .string) (hc:P.cellsOf te=1) (hcs:P.cellsOf ts=1) :
  ∃ (a:Addr) (s:ByteArray),W.cell? ⟨g,0,none⟩=some (.iface tp (.pointer (some a)))∧W.cell? a=some (.string s)∧s.data.toList=text∧∃ c t,W.heap[a.block]? = some (.cells c t (0,0)):=by
 obtain ⟨ps,hl,_,hrows⟩:=(laidMetH_iff.1 h).1
 have hmf:(n,sentD text)∈l.filter fun x=>x.2.handleName?.isNone:=List.mem_filter.2 ⟨hm,sentD_plain text⟩
 obtain ⟨g',t',cs,fuel,p,k1,k2,k3,k4,k5⟩:=laidVars_mem hl hmf
 clear hmf hm
 obtain rfl:=Option.some.inj (hg.symm.trans k1)
 obtain rfl:=Option.some.inj (ht.symm.trans k2)
 have hc0:=World.var?_cell hg k3 0
 obtain ⟨cl⟩:=cs
 obtain ⟨a,s,rfl,hc,hs,_,rfl⟩:=errorString_of_trod hi hrow hp he hft hfo hs hc hcs k4 (fun u v e=>by
  have e':cl=[.iface u v]:=e
  subst e'
  have hm0:MemPlace.cell g 0∈ps:=k5 _ (by simp [MemPlace.row])
  have hc1:W.cell? ⟨g,0,none⟩=some (.iface u v):=by simpa using hc0
  exact (hrows g 0 hm0).2 u v hc1)
 exact ⟨a,s,by simpa using hc0,hc,hs,(hrows a.block a.off (k5 _ (by simp [MemPlace.row]))).1⟩
theorem sent_of_laid {W:World} {l:List (String×DataW Unit)} (h:laidMetH Tryz.prog l W) {n:String} {text:List UInt8} {g:Nat} (hm:(n,sentD text)∈l)
  (hg:Tryz.prog.globalNamed n=some g) (ht:(Tryz.prog.globals[g]?).map (·.type)=some 31) :
  ∃ (a:Addr) (s:ByteArray),W.cell? ⟨g,0,none⟩=some (.iface 162 (.pointer (some a)))∧W.cell? a=some (.string s)∧s.data.toList=text∧∃ c t,W.heap[a.block]? = some (.cells c t (0,0)):=
 sent_any h hm hg ht Tryz.underlying31 hStr Tryz.underlying162 Tryz.underlying178 rfl rfl Tryz.underlying9 cES cS
end Go.Proofs.YthkhfbofhdfdoaaGreatDoor
namespace Go.Proofs.YthkhfbofhdfdoaaGreatDoor
open Go.ChangeShapes Go.WideShapes Go.ChangeAt Go.RowKit Go.Deep
section
variable {H:Type} {enc:TypeId×Value→H} {P:Program}
theorem trodAll_stays (hl:laidOutB P=true) {W W':World} (hb:Below W.heap.size W W') (sp:Nat→Bool):∀ {ts:List TypeId} {vs:List Value} {ds:List (DataW H)} {ps:List MemPlace},
  DataW.TrodAll enc P W 0 (fun _=>true) true ts vs ds ps→(∀ t∈ts,P.readableRec t=true∧t<P.types.size)→(∀ x∈ps,x.block<W.heap.size)→(∀ x∈ps,sp x.block=true)→DataW.TrodAll enc P W' 0 sp true ts vs ds ps
 | [],vs,ds,ps,h,_,_,_=>by
  obtain ⟨rfl,rfl,rfl⟩:=trodAll_nil h
  exact trodAll_mk0
 | t::ts,vs,ds,ps,h,ht,hlt,hsp=>by
  obtain ⟨v,vs',d,ds',p,q,rfl,rfl,rfl,h1,h2⟩:=trodAll_cons h
  obtain ⟨hr,hrow⟩:=ht t (List.mem_cons_self ..)
  refine trodAll_cons_mk (WideElems.Trod_stays hl hr hrow h1 (fun x hx=>hb.same (hlt x (List.mem_append_left _ hx))) fun x hx=>hsp x (List.mem_append_left _ hx)) ?_
  exact trodAll_stays hl hb sp h2 (fun t' ht'=>ht t' (List.mem_cons_of_mem _ ht')) (fun x hx=>hlt x (List.mem_append_right _ hx)) fun x hx=>hsp x (List.mem_append_right _ hx)
theorem trodAll_len {W:World} {base:Nat} {sp:Nat→Bool} {held:Bool}:∀ {ts:List TypeId} {vs:List Value} {ds:List (DataW H)} {ps:List MemPlace},DataW.TrodAll enc P W base sp held ts vs ds ps→ds.length=ts.length
 | [],_,_,_,h=>by obtain ⟨rfl,rfl,rfl⟩:=trodAll_nil h; rfl
 | t::ts,_,_,_,h=>by
  obtain ⟨v,vs',d,ds',p,q,rfl,rfl,rfl,h1,h2⟩:=trodAll_cons h
  simp [trodAll_len h2]
theorem post_true {f:Func} {s:ChangeSpec} {apart fresh handsOn again:Bool} {W W':World} {args:Array Value} {ds gs:List (DataW H)} {before:List MemPlace} {tb:TypeId}
  (hl:laidOutB P=true) (hpar:∀ t∈f.params.toList,P.readableRec t=true∧t<P.types.size) (hv:s.vars=[]) (hr:f.resultTypes = #[tb]) (hbool:P.underlying tb=some .bool)
  (hfn:∀ ds:List (DataW H),ds.length=f.params.toList.length→s.fn H ds={ results:=[.lit (.bool true)],args:=ds })
  (hW:DataW.Whole enc P f.params.toList s.vars apart W args.toList ds gs before) (hb:Below W.heap.size W W') :
  s.post enc P f apart fresh handsOn again W args (.bool true) W':=by
 obtain ⟨p,q,hA,hV,hbe,_,_⟩:=id hW
 have hV':=hV
 rw [hv] at hV'
 obtain ⟨rfl,rfl⟩:=trodVars_none hV'
 have hlt:∀ x∈before,x.block<W.heap.size:=fun x hx=>hW.lt x hx
 have e1:=hfn (ds++[]) (by rw [List.append_nil]; exact trodAll_len hA)
 refine post_of_below (pa:=p) (pv:=[]) hW (fun _ _ _=>?_) (fun sp hsp=>?_) (fun _ _=>?_) hbe hb ?_
 ·rw [e1,hr]
  exact trodAll_mk1 (shut_bool hbool true)
 ·rw [e1,List.append_nil]
  exact trodAll_stays hl hb sp hA hpar (fun x hx=>hlt x (by rw [hbe]; simpa using hx)) fun x hx=>hsp x (by rw [hbe]; simpa using hx)
 ·rw [e1,hv]
  rfl
 ·exact ok_one hr rfl (okWide_bool_mk hbool _)
end
end Go.Proofs.YthkhfbofhdfdoaaGreatDoor
namespace Go.Proofs.YthkhfbofhdfdoaaGreatDoor.slv
open Go.RowKit
theorem okC_nil (v:Int):okC v []=true:=rfl
theorem pfR_ends {v:Int}:∀ {pf L:List (List Int)} {i:Nat} {fin:Bool},(∀ (j:Nat) (c:List Int),pf[j]? = some c→Ref (L++pf.take j) c)→(∀ c∈pf,okC v c=true)→Ref (L++pf) []→pfR v L i fin (pf++[[]])=(0,-1)
 | [],L,i,fin,_,_,h3=>by
  rw [List.append_nil] at h3
  rw [List.nil_append]
  unfold pfR
  rw [if_pos (okC_nil v),if_pos h3]
  unfold pfR
  rw [if_pos (by simp)]
 | c::r,L,i,fin,h1,h2,h3=>by
  rw [List.cons_append]
  unfold pfR
  rw [if_pos (h2 c List.mem_cons_self),if_pos (by have:=h1 0 c rfl; simpa using this)]
  refine pfR_ends (fun j d hd=>?_) (fun d hd=>h2 d (List.mem_cons_of_mem _ hd)) (by simpa using h3)
  have:=h1 (j+1) d (by simpa using hd)
  simpa using this
theorem okC_of {V:Nat} {c:List Int} (h:∀ y∈c,Lit V y):okC (V:Int) c=true:=okC_lit.2 h
theorem pf_ends {V:Nat} {F pf:List (List Int)} (h:PfOk V F pf) (hr:Ref (F++pf) []):pfR (V:Int) F 0 false (pf++[[]])=(0,-1):=
 pfR_ends (fun j c hc=>h.ref j c hc) (fun c hc=>okC_of fun y hy=>((h.lit c hc).2.2 y hy).1) hr
theorem PrA.in_ {w:World} {tag:Nat→Tag} {A:Option Addr} {n c:Nat} {pf:List (List Int)} (h:PrA w tag (.slice A n c) pf) (hn:pf.length=n):CsIn w 0 A pf:=fun i l hi=>by
 obtain ⟨rows,h1,h2,h3⟩:=h
 have hlt:=(List.getElem?_eq_some_iff.1 hi).1
 obtain ⟨u,hu⟩:∃ u,rows[i]? = some u:=⟨_,List.getElem?_eq_getElem (by omega)⟩
 obtain ⟨g,c',hv,_,_⟩:=h1.own.form (by omega)
 injection hv with q1 q2 q3
 subst q1
 have hr:Row w tag (15,0) 0 72 (.slice (some ⟨g,0,none⟩) rows.length c) rows:=by rw [h2,hn]; exact h1
 refine ⟨g,u,rfl,hr.cell hu,?_⟩
 have:=(h3 i l u hi hu).own
 rw [litVals_len] at this
 exact this
theorem check_no {w:World} {ea:Nat→Addr} {V effort fuel n c n2 c2 base:Nat} {A A2:Option Addr} {F pf:List (List Int)} {s0 s':SS} {tag:Nat→Tag} (hes:Sen3 w ea) (hV:V≤1000) (hcs:CsAt w base (.slice A n c) F) (hn:F.length=n) (hn5:n≤400000) (hlit:∀ d∈F,d.length≤100000∧∀ z∈d,Lit V z)
  (e0:newM V F=some s0) (hfu:fuel≤100000) (hsr:searchM V effort fuel s0=some (.no pf,s')) (hpr:PrA w tag (.slice A2 n2 c2) pf) (hn2:pf.length=n2) :
  Calls Tryz.prog 10 #[.agg #[.int .i64 (V:Nat),.slice A n c],.slice A2 n2 c2] w fun e w'=>e = .returned .nilIface∧Below w.heap.size w w':=by
 obtain ⟨s0',e0',hsi0,hl0,_,hp0⟩:=newM_ok (V:=V) (F:=F) (fun d hd=>(hlit d hd).2) (by omega)
 obtain rfl:s0=s0':=by rw [e0] at e0'; injection e0' with e
 obtain ⟨hE,hpl,_⟩:=searchM_part (by omega) hsi0 hl0 (by rw [hp0]; simp; omega) hsr
 obtain ⟨h1,h2,h3⟩:=hE
 rw [hp0] at hpl
 have hpl:s'.pf.length≤fuel:=by simpa using hpl
 have hlen:pf.length≤100001:=by rw [h1]; simp; omega
 have hls2:∀ x∈pf,x.length≤100000:=by
  intro x hx
  rw [h1] at hx
  rcases List.mem_append.1 hx with hx | hx
  ·obtain ⟨g1,_,g3⟩:=h2.lit x hx
   have:=nodup_lit_le g1 (fun y hy=>(g3 y hy).1)
   omega
  ·obtain rfl:x=[]:=by simpa using hx
   simp
 refine (rcheck_any (v:=((V:Nat):Int)) (c:=c) (c2:=c2) hes hcs hn (hpr.in_ hn2) hn2 (by omega) (fun x hx=>(hlit x hx).1) hls2).mono ?_
 rintro e w' ⟨ev,cd,pl,rfl,hb,hpf,hev⟩
 have hF:FaultIs (V:Int) F 0 (-1):=.inr ⟨by unfold Off; omega,.inr ⟨rfl,rfl,List.all_eq_true.2 fun d hd=>okC_of (hlit d hd).2⟩⟩
 have hc0:cd=0:=by
  rcases hpf with ⟨hne,hf⟩ | ⟨_,hf⟩
  ·exact absurd (faultIs_eq hf hF).1 hne
  ·rw [h1,pf_ends h2 h3] at hf
   injection hf
 rcases hev.nil_iff with ⟨_,h⟩ | ⟨h,_⟩
 ·exact ⟨by rw [h],hb⟩
 ·omega
end Go.Proofs.YthkhfbofhdfdoaaGreatDoor.slv
namespace Go.Proofs.YthkhfbofhdfdoaaGreatDoor
open Go.ChangeShapes Go.WideShapes Go.ChangeAt Go.RowKit
def senList:List (String×DataW Unit):=[("lustrum/api.ErrBound",Rows.laid_lustrum_api_ErrBound),("lustrum/api.ErrShape",Rows.laid_lustrum_api_ErrShape),("lustrum/api.ErrProof",Rows.laid_lustrum_api_ErrProof)]
theorem sen_of_laid {W:World} {l:List (String×DataW Unit)} (h:laidMetH Tryz.prog l W) (hsub:∀ x∈senList,x∈l):∃ ea,Sen3 W ea:=by
 have key:∀ (i:Nat) (x:String×DataW Unit),senList[i]? = some x→x∈l:=fun i x h=>hsub x (List.mem_of_getElem? h)
 obtain ⟨a2,_,e2,_⟩:=sent_of_laid h (key 0 ("lustrum/api.ErrBound",sentD [108,117,115,116,114,117,109,58,32,98,111,117,110,100]) rfl) (g:=1) (by kernel_rfl) (by kernel_rfl)
 obtain ⟨a8,_,e8,_⟩:=sent_of_laid h (key 2 ("lustrum/api.ErrProof",sentD [108,117,115,116,114,117,109,58,32,112,114,111,111,102]) rfl) (g:=3) (by kernel_rfl) (by kernel_rfl)
 obtain ⟨a3,_,e3,_⟩:=sent_of_laid h (key 1 ("lustrum/api.ErrShape",sentD [108,117,115,116,114,117,109,58,32,115,104,97,112,101]) rfl) (g:=0) (by kernel_rfl) (by kernel_rfl)
 exact ⟨fun k=>if k=2 then a2 else if k=3 then a3 else a8,⟨e2,e3⟩,e8⟩
end Go.Proofs.YthkhfbofhdfdoaaGreatDoor
namespace Go.Proofs.YthkhfbofhdfdoaaGreatDoor
open Go.RowKit
theorem infoLitW:(Tryz.prog.info? 29).map (fun i=>(i.zero,i.size,i.bytes))=some (some (.int .i64 0),1,8):=by kernel_rfl
def bitsTo (n:Int) (k:Nat):List Int:=(List.range k).map fun i=>n/2 ^ i%2
theorem and_one (x:Int):bits BinOp.and IntKind.i64 x 1=x%2:=by
 show IntKind.i64.wrap ((BitVec.ofInt 64 x &&& BitVec.ofInt 64 1).toNat:Int)=_
 have h1:(BitVec.ofInt 64 x &&& BitVec.ofInt 64 1).toNat=(BitVec.ofInt 64 x).toNat%2:=by
  rw [BitVec.toNat_and,show (BitVec.ofInt 64 1).toNat=1 from rfl,Nat.and_one_is_mod]
 rw [h1,BitVec.toNat_ofInt,IntKind.wrap_i64]
 omega
theorem bitsTo_succ (n:Int) (k:Nat):bitsTo n (k+1)=bitsTo n k++[n/2 ^ k%2]:=by simp [bitsTo,List.range_succ]
def ARel (W:World) (e:TypeId) (k:Nat) (xs:List Value) (v:Value) (w:World):Prop:=
 ∃ A c,v = .slice A k c∧w.ownsRow W.heap.size e 1 v k xs∧Below W.heap.size W w
theorem ARel.start (W:World) (e:TypeId) {w:World} (h:Below W.heap.size W w):ARel W e 0 [] (.slice none 0 0) w:=
 ⟨none,0,rfl,World.ownsRow_nil _ _ _ _,h⟩
theorem ARel.next {W w w1:World} {e:TypeId} {k:Nat} {xs:List Value} {A A':Option Addr} {c c':Nat} {x:Value} {o:Obj} (h:ARel W e k xs (.slice A k c) w)
  (h1:w1.ownsRow W.heap.size e 1 (.slice A' (k+1) c') (k+1) (xs++[x])) (hg:(w.alloc o).grownBy w1 (Value.slice A k c).ownBlock):ARel W e (k+1) (xs++[x]) (.slice A' (k+1) c') w1:=by
 obtain ⟨_,_,he,ho,hb⟩:=h
 exact ⟨A',c',rfl,h1,(hb.alloc hb.size o).grown hg (by simpa using Nat.le_trans hb.size (Nat.le_succ _)) fun j hj=>(ho.lt j hj).1⟩
set_option maxHeartbeats 400000 in
theorem const_any {n:Int} (h1 : -128≤n) (h2:n≤127) (w:World) :
  Calls Tryz.prog 11 #[.int .i64 n] w fun e w'=>∃ v,e = .returned (.tuple #[v,.nilIface])∧ARel w 29 8 (litVals (bitsTo n 8)) v w':=by
 obtain ⟨i0,hi⟩:=info_parts infoLitW
 have HI:=Lib.hid hi
 clear hi
 have e0:decide (n < -128)=false:=decide_eq_false (by omega)
 have e1:decide (127<n)=false:=decide_eq_false (by omega)
 clear h1 h2
 go_enter Tryz.func11,Tryz.ntmps11
 go_wp2_with fail
 clear e0 e1
 go_loopw [4,13] (fun v i wr=>∃ k:Nat,k≤8∧i = .int .i64 k∧ARel w 29 k (litVals (bitsTo n k)) v wr) (fun _ i _=>8-(intOf i).toNat)
 case atStart=>exact ⟨0,by omega,rfl,ARel.start _ _ (Below.refl _ _)⟩
 case round=>
  obtain ⟨k,hk,rfl,hr⟩:=hrel
  obtain ⟨A,c,rfl,hown,hbl⟩:=id hr
  have HR:=Lib.hid hr
  have HO:=Lib.hid hown
  have HB:=Lib.hid hbl
  have HB':=Lib.hid (Nat.le_trans hbl.size (Nat.le_succ wr.heap.size))
  clear hr hown hbl
  by_cases hlt:k<8
  ·go_wp2_with (at_builtin; refine wpList_append_sl _ rfl (.tmp 16) (.tmp 21) _ rfl w.heap.size 29 i0 _ 1 8 Tryz.underlying28 HI.out.1 HI.out.2.1 HI.out.2.2.1 HI.out.2.2.2 rfl (by omega) _ k _ rfl (HO.out.alloc _) (wr.heap.size+1) (some ⟨wr.heap.size,0,none⟩) 1 1 _ rfl (reads_new rfl (by omega) rfl) (ints_one (by simp)) (le_maxLen (by omega)) (le_bytes (by omega) (by omega)) (by have:=HB'.out; simp; omega) ?_; intro A1 c1 w1 hown1 hg1)
   go_roundw
   case rel=>
    refine ⟨k+1,by omega,by go_num,?_⟩
    rw [and_one] at hown1 hg1
    have h:=HR.out.next hown1 hg1
    rwa [bitsTo_succ,litVals,List.map_append]
   case measure=>simp [intOf]; omega
  ·go_wp2
   go_ret2
   obtain rfl:k=8:=by omega
   exact ⟨_,rfl,HR.out⟩
end Go.Proofs.YthkhfbofhdfdoaaGreatDoor
namespace Go.Proofs.YthkhfbofhdfdoaaGreatDoor
open Go.RowKit
end Go.Proofs.YthkhfbofhdfdoaaGreatDoor
namespace Go.Proofs.YthkhfbofhdfdoaaGreatDoor
open Go.RowKit
def RPost (w:World) (x:Bool) (e:Ending) (w':World):Prop:=e = .returned (.bool x)∧Below w.heap.size w w'
theorem bitsTo_5:litVals (bitsTo 5 8)=[.int .i64 1,.int .i64 0,.int .i64 1,.int .i64 0,.int .i64 0,.int .i64 0,.int .i64 0,.int .i64 0]:=rfl
theorem arel_cells {W w:World} {e:TypeId} {k:Nat} {xs:List Value} {A:Option Addr} {c:Nat} (h:ARel W e k xs (.slice A k c) w) (hk:0<k) :
  ∃ g,A=some ⟨g,0,none⟩∧W.heap.size≤g∧(∀ (j:Nat) (u:Value),xs[j]? = some u→w.cell? ⟨g,j,none⟩=some u):=by
 obtain ⟨A',c',he,ho,_⟩:=h
 simp only [Value.slice.injEq,true_and] at he
 obtain ⟨rfl,rfl⟩:=he
 obtain ⟨g,cap,hv,hb,_⟩:=ho.form hk
 simp only [Value.slice.injEq] at hv
 obtain ⟨rfl,_,rfl⟩:=hv
 refine ⟨g,rfl,hb,fun j u hu=>?_⟩
 have:=ho.cells (g:=g) rfl j u hu
 rwa [show ((⟨g,0,none⟩:Addr).add j)=⟨g,j,none⟩ from by unfold Addr.add; split <;> simp_all] at this
theorem five_any (w:World):Calls Tryz.prog 4 #[] w (RPost w true):=by
 have C:=Lib.hid (const_any (n:=5) (by omega) (by omega) w)
 go_enter Tryz.func4,Tryz.ntmps4
 go_wp2_with fail
 refine C.out.mono ?_
 rintro e w1 ⟨v,rfl,hr⟩
 obtain ⟨A,c,rfl,_,hb⟩:=id hr
 rw [bitsTo_5] at hr
 obtain ⟨g,rfl,hg,hc⟩:=arel_cells hr (by omega)
 have c0:=hc 0 _ rfl
 have c1:=hc 1 _ rfl
 have c2:=hc 2 _ rfl
 have HB:=Lib.hid hb
 clear hr hc hb
 go_wp2
 go_ret
 exact ⟨rfl,HB.out⟩
end Go.Proofs.YthkhfbofhdfdoaaGreatDoor
namespace Go.Proofs.YthkhfbofhdfdoaaGreatDoor
open Go.ChangeShapes Go.WideShapes Go.ChangeAt Go.RowKit
theorem strVals_length (l:List ByteArray):(strVals l).length=l.length:=by unfold strVals; simp
theorem strs_inj {a b:List ByteArray} (h:(strs a:List (DataW Unit))=strs b):a=b:=by
 unfold strs at h
 refine (List.map_inj_right fun x y hh=>?_).1 h
 have:x.data.toList=y.data.toList:=by simpa using hh
 obtain ⟨⟨x⟩⟩:=x
 obtain ⟨⟨y⟩⟩:=y
 simp at this
 rw [this]
theorem lvl_one {W:World} {fuel:Nat} {cs:List Value} {q:List MemPlace} {ls:List ByteArray} (h:DataW.trod (fun _=>()) Tryz.prog W 0 (fun _=>true) false fuel 118 cs=some (.slice (strs ls) [],q)) (hl:0<ls.length) :
  ∃ A c,cs=[.slice A ls.length c]∧Reads W W.heap.size 1 A ls.length (strVals ls):=by
 rcases open_strings Tryz.underlying118 Tryz.underlying9 (by kernel_rfl) h with ⟨_,hx⟩ | ⟨a,len,cap,ss,hcs,_,hlc,_,hz,hx,hcell,_⟩
 ·cases hx
 ·have h1:(strs ls:List (DataW Unit))=strs (ss.take len):=by
   have:=congrArg Prod.fst hx
   simp only [DataW.slice.injEq] at this
   exact this.1
  have h2:=strs_inj h1
  have hzl:ss.length=cap:=by rw [hz]; simp
  have hlen:ls.length=len:=by rw [h2,List.length_take]; omega
  refine ⟨some a,cap,by rw [hcs,hlen],by rw [strVals_length,Nat.mul_one],fun _=>⟨a,rfl,?_,fun j u hu=>?_⟩⟩
  ·have:=World.block_lt_of_cell? W _ (hcell 0 (by omega))
   rwa [block_of_add] at this
  ·have hj:j<ls.length:=by have:=(List.getElem?_eq_some_iff.1 hu).1; rwa [strVals_length] at this
   have hs:ls[j]? = some (ss.getD j ByteArray.empty):=by
    rw [h2,List.getElem?_take,if_pos (by omega),List.getD_eq_getElem?_getD,List.getElem?_eq_getElem (by omega)]; rfl
   rw [strVals_at hs] at hu
   injection hu with hu
   rw [← hu]
   exact hcell j (by omega)
theorem lv_g:Tryz.prog.globalNamed "lustrum/tree.levels" = some 4:=by kernel_rfl
theorem lv_t:(Tryz.prog.globals[4]?).map (·.type)=some 119:=by kernel_rfl
theorem lv_c:Tryz.prog.cellsOf 118=1:=by kernel_rfl
theorem lv_c5:Tryz.prog.cellsOf 119=5:=by kernel_rfl
theorem lv_none:(Rows.laid_lustrum_tree_levels (H:=Unit)).handleName?.isNone=true:=by unfold Rows.laid_lustrum_tree_levels DataW.handleName?; simp
theorem lvls_of_laid {W:World} {l:List (String×DataW Unit)} (h:laidMetH Tryz.prog l W) (hm:("lustrum/tree.levels",Rows.laid_lustrum_tree_levels)∈l):Lvls W W.heap.size:=by
 obtain ⟨ps,hl,_,_⟩:=(laidMetH_iff.1 h).1
 have hmf:(("lustrum/tree.levels",Rows.laid_lustrum_tree_levels):String×DataW Unit)∈l.filter fun x=>x.2.handleName?.isNone:=List.mem_filter.2 ⟨hm,lv_none⟩
 obtain ⟨g',t',cs,fuel,p,k1,k2,k3,k4,_⟩:=laidVars_mem hl hmf
 obtain rfl:=Option.some.inj (lv_g.symm.trans k1)
 obtain rfl:=Option.some.inj (lv_t.symm.trans k2)
 have hc:=fun i=>World.var?_cell lv_g k3 i
 obtain ⟨xs,m,_,hx,hlen,hn,hel⟩:=DataW.trod_array Tryz.underlying119 k4
 rw [lv_c] at hel
 rw [lv_c5] at hlen
 have hx1:(Rows.laid_lustrum_tree_levels (H:=Unit)) = .agg (xs.map (·.1)):=congrArg Prod.fst hx
 have hx2:xs.map (·.1)=[.slice (strs (lvl 0)) [],.slice (strs (lvl 1)) [],.slice (strs (lvl 2)) [],.slice (strs (lvl 3)) [],.slice (strs (lvl 4)) []]:=by
  have:(Rows.laid_lustrum_tree_levels (H:=Unit)) = .agg [.slice (strs (lvl 0)) [],.slice (strs (lvl 1)) [],.slice (strs (lvl 2)) [],.slice (strs (lvl 3)) [],.slice (strs (lvl 4)) []]:=rfl
  rw [this] at hx1
  injection hx1 with hx1
  exact hx1.symm
 obtain ⟨cl⟩:=cs
 have one:∀ i,i<5→∃ A c,cl[i]? = some (.slice A (lvl i).length c)∧Reads W W.heap.size 1 A (lvl i).length (strVals (lvl i)):=fun i hi=>by
  have h1:=hel i hi
  have h2:(xs.map (·.1))[i]? = some (.slice (strs (lvl i)) []):=by
   rw [hx2]
   match i,hi with
   | 0,_=>rfl
   | 1,_=>rfl
   | 2,_=>rfl
   | 3,_=>rfl
   | 4,_=>rfl
  rw [List.getElem?_map] at h2
  obtain ⟨y,hy,hy1⟩:=Option.map_eq_some_iff.1 h2
  rw [hy] at h1
  obtain ⟨d,q⟩:=y
  simp only at hy1
  subst hy1
  obtain ⟨A,c,e1,e2⟩:=lvl_one h1 (by
   match i,hi with
   | 0,_=>decide
   | 1,_=>decide
   | 2,_=>decide
   | 3,_=>decide
   | 4,_=>decide)
  refine ⟨A,c,?_,e2⟩
  have:=congrArg (·[0]?) e1
  simpa [List.getElem?_take,List.getElem?_drop] using this
 have cell:∀ i v,cl[i]? = some v→W.cell? ⟨4,i,none⟩=some v:=fun i v hv=>by
  have:=hc i
  rw [this]; simpa using hv
 obtain ⟨A0,c0,q0,r0⟩:=one 0 (by omega)
 obtain ⟨A1,c1,q1,r1⟩:=one 1 (by omega)
 obtain ⟨A2,c2,q2,r2⟩:=one 2 (by omega)
 obtain ⟨A3,c3,q3,r3⟩:=one 3 (by omega)
 obtain ⟨A4,c4,q4,r4⟩:=one 4 (by omega)
 exact ⟨⟨A0,A1,A2,A3,A4,c0,c1,c2,c3,c4,cell 0 _ q0,cell 1 _ q1,cell 2 _ q2,cell 3 _ q3,cell 4 _ q4,r0,r1,r2,r3,r4⟩,World.block_lt_of_cell? _ _ (cell 0 _ q0)⟩
end Go.Proofs.YthkhfbofhdfdoaaGreatDoor
