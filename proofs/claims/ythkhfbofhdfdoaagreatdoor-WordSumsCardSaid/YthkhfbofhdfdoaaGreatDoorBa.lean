/- Plain laws and walks for the law WordSums; no condition. -/
import Derived.WalkKit
import Derived.Deep.AppendLies
import Derived.Deep.Draws
import Derived.Deep.OwnRows
import Derived.Deep.QuietTactic
import Derived.BigQuiet
import Derived.Deep.RegionWith
import Derived.Deep.RegionLaw
import Derived.Deep.RegionHeld3
import Derived.Maps.AppendAt
import Derived.Maps.OwnSet
import Derived.Lib.Hide
import Derived.WalkLawsBesides
import Derived.WalkSpells
import Derived.ProofKit
import Derived.ChangeSame
import Derived.Test.YthkhfbofhdfdoaaGreatDoorProg
import Derived.StillTailTactics
import Derived.IntWalk
import Derived.OrdersHeld
namespace Go.Proofs.YthkhfbofhdfdoaaGreatDoor
open Go.RowKit Go.WideShapes Go.ChangeShapes
theorem block_of_add (a:Addr) (n:Nat):(a.add n).block=a.block:=by unfold Addr.add; split <;> rfl
theorem add_of_add (a:Addr) (i j:Nat):(a.add i).add j=a.add (i+j):=by
 unfold Addr.add
 by_cases hi:i=0 <;> by_cases hj:j=0 <;> simp [hi,hj,Nat.add_assoc]
def Reads (w:World) (B size:Nat) (A:Option Addr) (n:Nat) (xs:List Value):Prop:=
 xs.length=n*size∧(0<n→∃ ad,A=some ad∧ad.block<B∧∀ j u,xs[j]? = some u→w.cell? (ad.add j)=some u)
section
variable {w w':World} {B B' size n:Nat} {A:Option Addr} {xs:List Value}
theorem Reads.at_ {k:Nat} (h:Reads w B 1 A n xs) (hk:k<n):∃ ad u,A=some ad∧ad.block<B∧xs[k]? = some u∧w.cell? (ad.add k)=some u:=by
 obtain ⟨ad,e,hb,hc⟩:=h.2 (by omega)
 have hl:k<xs.length:=by have:=h.1; omega
 exact ⟨ad,xs[k],e,hb,List.getElem?_eq_getElem hl,hc k _ (List.getElem?_eq_getElem hl)⟩
theorem Reads.keep (h:Reads w B size A n xs) (hk:∀ p:Addr,p.block<B→w'.cell? p=w.cell? p):Reads w' B size A n xs:=
 ⟨h.1,fun hn=>by
  obtain ⟨ad,e,hb,hc⟩:=h.2 hn
  exact ⟨ad,e,hb,fun j u hu=>(hk _ (by rw [block_of_add]; exact hb)).trans (hc j u hu)⟩⟩
theorem Reads.more (h:Reads w B size A n xs) (hB:B≤B'):Reads w B' size A n xs:=
 ⟨h.1,fun hn=>by
  obtain ⟨ad,e,hb,hc⟩:=h.2 hn
  exact ⟨ad,e,by omega,hc⟩⟩
theorem Reads.below (h:Reads w B size A n xs) (hb:Below B w w'):Reads w' B size A n xs:=h.keep fun _ hp=>hb.cell hp
theorem Reads.drew (h:Reads w B size A n xs):Reads w.drew B size A n xs:=h
theorem Reads.drewN (h:Reads w B size A n xs) (k:Nat):Reads (w.drewN k) B size A n xs:=h
theorem Reads.alloc (h:Reads w B size A n xs) (hB:B≤w.heap.size) (o:Obj):Reads (w.alloc o) B size A n xs:=h.keep fun p hp=>World.cell?_alloc_lt w o p (by omega)
theorem Reads.setCell (h:Reads w B size A n xs) {p:Addr} (hB:B≤p.block) (u:Value):Reads (w.setCell p u) B size A n xs:=
 h.keep fun q hq=>World.cell?_setCell_other w p q u (fun e=>by subst e; omega)
theorem Reads.grown (h:Reads w B size A n xs) {row:Option Nat} (hg:w.grownBy w' row) (hB:B≤w.heap.size) (hr:∀ g,row=some g→B≤g):Reads w' B size A n xs:=
 h.keep fun p hp=>World.cell?_of_block (hg.block p.block (by omega) (fun e=>by have:=hr _ e.symm; omega))
theorem Reads.cut (h:Reads w B size A n xs) {k cap:Nat} (hk:k≤n) (hc:n≤cap) :
  Reads w B size (if cap=k then A else A.map (·.add (k*size))) (n-k) (xs.drop (k*size)):=by
 refine ⟨by rw [List.length_drop,h.1,Nat.sub_mul],fun hn=>?_⟩
 obtain ⟨ad,rfl,hb,hcell⟩:=h.2 (by omega)
 rw [if_neg (by omega)]
 refine ⟨ad.add (k*size),rfl,by rw [block_of_add]; exact hb,fun j u hu=>?_⟩
 rw [add_of_add]
 exact hcell _ u (by rw [← hu,List.getElem?_drop])
theorem Reads.of_own {base:Nat} {e:TypeId} {c:Nat} (h:w.ownsRow base e size (.slice A n c) n xs):Reads w w.heap.size size A n xs:=by
 refine ⟨h.1,fun hn=>?_⟩
 obtain ⟨g,cap,hv,_,hlt⟩:=h.form hn
 have hA:A=some ⟨g,0,none⟩:=by injection hv
 subst hA
 exact ⟨_,rfl,hlt,h.cells (g:=g) rfl⟩
end
def Blk (w:World) (g:Nat) (t:TypeId) (cs:Array Value):Prop:=w.heap[g]? = some (.cells cs t (0,0))
section
variable {w w':World} {g:Nat} {t:TypeId} {cs:Array Value}
theorem Blk.lt (h:Blk w g t cs):g<w.heap.size:=by
 rcases Nat.lt_or_ge g w.heap.size with hlt | hge
 ·exact hlt
 ·unfold Blk at h; rw [Array.getElem?_eq_none hge] at h; cases h
theorem Blk.cell (h:Blk w g t cs) (i:Nat):w.cell? ⟨g,i,none⟩=cs[i]? := cell_of_row w g i cs t (0,0) h
theorem Blk.frozen (h:Blk w g t cs) (i:Nat):w.frozen? ⟨g,i,none⟩=false:=by
 unfold Blk at h
 simp [World.frozen?,h]
theorem Blk.new (w:World) (t:TypeId) (cs:Array Value):Blk (w.alloc (.cells cs t)) w.heap.size t cs:=heap_alloc_new w _
theorem Blk.drew (h:Blk w g t cs):Blk w.drew g t cs:=h
theorem Blk.drewN (h:Blk w g t cs) (n:Nat):Blk (w.drewN n) g t cs:=h
theorem Blk.alloc (h:Blk w g t cs) (o:Obj):Blk (w.alloc o) g t cs:=(Below.heap_alloc w o g h.lt).trans h
theorem Blk.set_ (h:Blk w g t cs) (i:Nat) (u:Value):Blk (w.setCell ⟨g,i,none⟩ u) g t (cs.setIfInBounds i u):=by
 unfold Blk at h ⊢
 simp [World.setCell,Array.getElem?_modify,h]
theorem Blk.far (h:Blk w g t cs) {p:Addr} (hp:g≠p.block) (u:Value):Blk (w.setCell p u) g t cs:=(Below.heap_setCell w p u g hp).trans h
theorem Blk.below {B:Nat} (h:Blk w g t cs) (hb:Below B w w') (hg:g<B):Blk w' g t cs:=(hb.block g hg).trans h
theorem Blk.grown {row:Option Nat} (h:Blk w g t cs) (hb:w.grownBy w' row) (hg:some g≠row):Blk w' g t cs:=(hb.block g h.lt hg).trans h
theorem Blk.ne_ {g':Nat} {t':TypeId} {cs':Array Value} (h:Blk w g t cs) (h':Blk w g' t' cs') (hne:t≠t'):g≠g':=by
 rintro rfl
 unfold Blk at h h'
 rw [h] at h'
 injection h' with h'
 injection h' with _ ht
 exact hne ht
theorem own_blk_ne {base:Nat} {e:TypeId} {size n:Nat} {v:Value} {xs:List Value} (h:w.ownsRow base e size v n xs) (hg:Blk w g t cs) (hne:e≠t):v.ownBlock≠some g:=by
 rcases h.2 with ⟨rfl,_⟩ | ⟨g',cap,cur,rfl,_,hh,_⟩
 ·simp [Value.ownBlock]
 ·intro he
  have:g'=g:=by simpa [Value.ownBlock] using he
  subst this
  exact Blk.ne_ (t:=e) hh hg hne rfl
end
section
variable {P:Program} (w:World)
theorem run_append_of_nil (base:Nat) (t ty e:TypeId) (i:TypeInfo) (size:Nat) (ht:P.underlying t=some (.slice e)) (hi:P.info? e=some i)
  (v:Value) (n:Nat) (xs:List Value) (hown:w.ownsRow base e size v n xs) (c:Nat):(Builtin.append_ #[t,t] ty #[v,.slice none 0 c]).run P w = .ok v w:=by
 rcases hown.2 with ⟨rfl,rfl⟩ | ⟨g,cap,cur,rfl,_,_,hnc,_⟩
 ·simp [Builtin.append_,run_underlying ht,sizeOf,typeInfo,hi,Builtin.lenOf,Builtin.firstCells]
 ·simp [Builtin.append_,run_underlying ht,sizeOf,typeInfo,hi,Builtin.lenOf,Builtin.firstCells,hnc,storeCells]
theorem run_append_any (base:Nat) (t ty e:TypeId) (i:TypeInfo) (z:Value) (size bytes:Nat) (ht:P.underlying t=some (.slice e)) (hi:P.info? e=some i) (hz:i.zero=some z)
  (hsize:i.size=size) (hby:i.bytes=bytes) (hzs:z.cells.size=size) (hsz:0<size)
  (v:Value) (n:Nat) (xs:List Value) (hown:w.ownsRow base e size v n xs)
  (B:Nat) (A:Option Addr) (m c:Nat) (news:List Value) (hr:Reads w B size A m news) (h1:∀ u∈news,u.oneCell'=true)
  (h63:n+m≤maxLen) (hbytes:(n+m)*bytes≤140737488355328) (hbase:base≤w.heap.size) :
  ∃ v' w',(Builtin.append_ #[t,t] ty #[v,.slice A m c]).run P w = .ok v' w'∧w'.ownsRow base e size v' (n+m) (xs++news)∧w.grownBy w' v.ownBlock ∧
   (v'.ownBlock=v.ownBlock∨v'.ownBlock=some w.heap.size):=by
 rcases A with _ | ad
 ·have hm:m=0:=by
   rcases Nat.eq_zero_or_pos m with h0 | h0
   ·exact h0
   ·obtain ⟨ad,h,_⟩:=hr.2 h0
    cases h
  subst hm
  have hn:news=[]:=List.eq_nil_of_length_eq_zero (by simpa using hr.1)
  subst hn
  exact ⟨v,w,run_append_of_nil w base t ty e i size ht hi v n xs hown c,by simpa using hown,World.grownBy.refl w _,.inl rfl⟩
 ·have hcells:∀ j u,news[j]? = some u→w.cell? (ad.add j)=some u:=by
   intro j u hu
   rcases Nat.eq_zero_or_pos m with h0 | h0
   ·subst h0
    have hn:news=[]:=List.eq_nil_of_length_eq_zero (by simpa using hr.1)
    subst hn
    simp at hu
   ·obtain ⟨ad',h,_,hc⟩:=hr.2 h0
    injection h with h
    subst h
    exact hc j u hu
  obtain ⟨v',w',hrun,h2,h3,_,h5⟩:=run_append_own_at (P:=P) w base t ty e i z size bytes ht hi hz hsize hby hzs hsz v n xs hown ad m c news hr.1 hcells h1 h63 hbytes hbase
  exact ⟨v',w',hrun,h2,h3,h5⟩
theorem wp_append_any {o:Oper} {a:Act} {K:Act→World→Prop} {Q:Exit→Act→World→Prop} (s x:Operand) (t:TypeId)
  (ho:o.op = .call { callee:=.builtin .append,args:=#[s,x],argTypes:=#[t,t] })
  (base:Nat) (e:TypeId) (i:TypeInfo) (z:Value) (size bytes:Nat) (ht:P.underlying t=some (.slice e)) (hi:P.info? e=some i) (hz:i.zero=some z)
  (hsize:i.size=size) (hby:i.bytes=bytes) (hzs:z.cells.size=size) (hsz:0<size)
  (v:Value) (n:Nat) (xs:List Value) (hs:a.eval s=v) (hown:w.ownsRow base e size v n xs)
  (B:Nat) (A:Option Addr) (m c:Nat) (news:List Value) (hx:a.eval x = .slice A m c) (hr:Reads w B size A m news) (h1:∀ u∈news,u.oneCell'=true)
  (h63:n+m≤maxLen) (hbytes:(n+m)*bytes≤140737488355328) (hbase:base≤w.heap.size)
  (h:∀ v' w',w'.ownsRow base e size v' (n+m) (xs++news)→w.grownBy w' v.ownBlock→(v'.ownBlock=v.ownBlock∨v'.ownBlock=some w.heap.size)→K (a.put o.dst v') w'):o.wp P a w K Q:=by
 obtain ⟨v',w',hrun,h2,h3,h4⟩:=run_append_any (P:=P) w base t o.type e i z size bytes ht hi hz hsize hby hzs hsz v n xs hown B A m c news hr h1 h63 hbytes hbase
 unfold Oper.wp execOp
 simp only [ho,resolve,invoke,builtin,Sem.run_bind,Sem.run_pure,Result.andThen_ok,List.map_toArray,List.map_cons,List.map_nil,hs,hx,hrun]
 exact h v' w' h2 h3 h4
theorem wpList_append_any {ops:Array Oper} {rest:List Oper} {o:Oper} {a:Act} {Q:Exit→Act→World→Prop} (hgd:o.guard=none) (s x:Operand) (t:TypeId)
  (ho:o.op = .call { callee:=.builtin .append,args:=#[s,x],argTypes:=#[t,t] })
  (base:Nat) (e:TypeId) (i:TypeInfo) (z:Value) (size bytes:Nat) (ht:P.underlying t=some (.slice e)) (hi:P.info? e=some i) (hz:i.zero=some z)
  (hsize:i.size=size) (hby:i.bytes=bytes) (hzs:z.cells.size=size) (hsz:0<size)
  (v:Value) (n:Nat) (xs:List Value) (hs:a.eval s=v) (hown:w.ownsRow base e size v n xs)
  (B:Nat) (A:Option Addr) (m c:Nat) (news:List Value) (hx:a.eval x = .slice A m c) (hr:Reads w B size A m news) (h1:∀ u∈news,u.oneCell'=true)
  (h63:n+m≤maxLen) (hbytes:(n+m)*bytes≤140737488355328) (hbase:base≤w.heap.size)
  (h:∀ v' w',w'.ownsRow base e size v' (n+m) (xs++news)→w.grownBy w' v.ownBlock→(v'.ownBlock=v.ownBlock∨v'.ownBlock=some w.heap.size)→wpList P ops Q rest (a.put o.dst v') w'):wpList P ops Q (o::rest) a w:=
 wpList_plain hgd fun _ hK=>wp_append_any w s x t ho base e i z size bytes ht hi hz hsize hby hzs hsz v n xs hs hown B A m c news hx hr h1 h63 hbytes hbase fun v' w' h2 h3 h4=>hK _ _ (h v' w' h2 h3 h4)
theorem step_append_any {ops:Array Oper} {o:Oper} {a:Act} {K:Act→World→Prop} {Q:Exit→Act→World→Prop} {E:Prop} (hgd:o.guard=none) (s x:Operand) (t:TypeId)
  (ho:o.op = .call { callee:=.builtin .append,args:=#[s,x],argTypes:=#[t,t] })
  (base:Nat) (e:TypeId) (i:TypeInfo) (z:Value) (size bytes:Nat) (ht:P.underlying t=some (.slice e)) (hi:P.info? e=some i) (hz:i.zero=some z)
  (hsize:i.size=size) (hby:i.bytes=bytes) (hzs:z.cells.size=size) (hsz:0<size)
  (v:Value) (n:Nat) (xs:List Value) (hs:a.eval s=v) (hown:w.ownsRow base e size v n xs)
  (B:Nat) (A:Option Addr) (m c:Nat) (news:List Value) (hx:a.eval x = .slice A m c) (hr:Reads w B size A m news) (h1:∀ u∈news,u.oneCell'=true)
  (h63:n+m≤maxLen) (hbytes:(n+m)*bytes≤140737488355328) (hbase:base≤w.heap.size)
  (h:∀ v' w',w'.ownsRow base e size v' (n+m) (xs++news)→w.grownBy w' v.ownBlock→(v'.ownBlock=v.ownBlock∨v'.ownBlock=some w.heap.size)→K (a.put o.dst v') w') :
  if Region.wanted o (yielded ops a.tmps)=true then Oper.wp P o a w K Q else E:=by
 have hw:Region.wanted o (yielded ops a.tmps)=true:=by simp [Region.wanted,hgd]
 rw [if_pos hw]
 exact wp_append_any w s x t ho base e i z size bytes ht hi hz hsize hby hzs hsz v n xs hs hown B A m c news hx hr h1 h63 hbytes hbase h
end
theorem quiet_add_left {P:Program} {f:FuncId} {args:Array Value} {w:World} {a n:Nat} {v:Value}
  (h:Calls P f args (w.drewN (a+n)) fun e w'=>e = .returned v∧w.drewN (a+n)=w') :
  Calls P f args (w.drewN (a+n)) fun e w''=>e = .returned v∧∃ m,w''=w.drewN (a+m):=
 h.mono fun _ _ ⟨he,hm⟩=>⟨he,n,hm.symm⟩
theorem quiet_left {P:Program} {f:FuncId} {args:Array Value} {w:World} {n:Nat} {v:Value}
  (h:Calls P f args (w.drewN n) fun e w'=>e = .returned v∧w.drewN n=w'):Calls P f args (w.drewN n) fun e w''=>e = .returned v∧∃ m,w''=w.drewN m:=
 h.mono fun _ _ ⟨he,hm⟩=>⟨he,n,hm.symm⟩
theorem results_tmp4 {fn:Func} {t u v x:Tmp} (h:fn.results = #[.tmp t,.tmp u,.tmp v,.tmp x]) (tmps:Array Value) (P:Program) (w:World) :
  (results fn tmps).run P w = .ok (.tuple #[tmps.getD t undef,tmps.getD u undef,tmps.getD v undef,tmps.getD x undef]) w:=by simp [results,h]
theorem below_drewN {B:Nat} {a w:World} (h:Below B a w) (n:Nat):Below B a (w.drewN n):=⟨h.os,h.tape,h.output,h.size,h.block⟩
theorem only_drew {a w:World} {row:Option Nat} (h:a.grownBy w row):a.grownBy w.drew row:=⟨h.os,h.tape,h.output,h.size,h.block⟩
theorem only_alloc {a w:World} {row:Option Nat} (h:a.grownBy w row) (o:Obj):a.grownBy (w.alloc o) row:=
 ⟨h.os,h.tape,h.output,Nat.le_trans h.size (by simp),fun i hi hne=>(Below.heap_alloc w o i (Nat.lt_of_lt_of_le hi h.size)).trans (h.block i hi hne)⟩
theorem run_make_rowN {P:Program} (t e:TypeId) (i:TypeInfo) (z:Value) (ht:P.underlying t=some (.slice e)) (hi:P.info? e=some i) (hz:i.zero=some z)
  (kl kc:IntKind) (n c:Nat) (hnc:n≤c) (hbytes:i.bytes*c≤281474976710656) (h63:c≤9223372036854775807) (w:World) :
  (Instr.makeSlice t (.int kl (n:Int)) (.int kc (c:Int))).run P w = .ok (.slice (some ⟨w.heap.size,0,none⟩) n c) (w.alloc (.cells (madeCells z.cells (c*i.size)) e)):=by
 have hb:(i.bytes:Int)*(c:Int)≤281474976710656:=by
  have h:((i.bytes*c:Nat):Int)≤281474976710656:=by omega
  rwa [Int.natCast_mul] at h
 have hr:=run_make (P:=P) w t e i z ht hi hz kl kc n c (by omega) (by omega) hb (by omega)
 simp only [Int.toNat_natCast] at hr
 exact hr
theorem ofInt_i64 (a:Nat) (ha:a<9223372036854775808):(BitVec.ofInt 64 (a:Int)).toNat=a:=by
 rw [BitVec.ofInt_natCast,BitVec.toNat_ofNat]; exact Nat.mod_eq_of_lt (by omega)
theorem i64_xor_nat (a b:Nat) (ha:a<9223372036854775808) (hb:b<9223372036854775808):bits .xor .i64 (a:Int) (b:Int)=((a ^^^ b:Nat):Int):=by
 have hx:a ^^^ b<2 ^ 63:=Nat.xor_lt_two_pow (by omega) (by omega)
 show IntKind.i64.wrap ((BitVec.ofInt 64 (a:Int) ^^^ BitVec.ofInt 64 (b:Int)).toNat:Int)=_
 rw [BitVec.toNat_xor,ofInt_i64 a ha,ofInt_i64 b hb,IntKind.wrap_i64]
 omega
def elemOf:Obj→Option TypeId
 | .cells _ e _=>some e
 | _=>none
structure Chg (S:Nat→Obj→Prop) (w w':World):Prop where
 os:w'.os=w.os
 tape:w'.tape=w.tape
 output:w'.output=w.output
 size:w.heap.size≤w'.heap.size
 keep:∀ k o,w.heap[k]? = some o→¬ S k o→w'.heap[k]? = some o
section
variable {S S':Nat→Obj→Prop} {a w w':World}
theorem Chg.refl (S:Nat→Obj→Prop) (w:World):Chg S w w:=⟨rfl,rfl,rfl,Nat.le_refl _,fun _ _ h _=>h⟩
theorem Chg.trans (h:Chg S a w) (k:Chg S w w'):Chg S a w':=
 ⟨k.os.trans h.os,k.tape.trans h.tape,k.output.trans h.output,Nat.le_trans h.size k.size,fun i o ho hn=>k.keep i o (h.keep i o ho hn) hn⟩
theorem Chg.mono (h:Chg S a w) (hs:∀ k o,a.heap[k]? = some o→S k o→S' k o):Chg S' a w:=
 ⟨h.os,h.tape,h.output,h.size,fun i o ho hn=>h.keep i o ho fun hS=>hn (hs i o ho hS)⟩
theorem Chg.trans' (h:Chg S a w) (k:Chg S' w w') (hs:∀ i o,a.heap[i]? = some o→S' i o→S i o):Chg S a w':=
 ⟨k.os.trans h.os,k.tape.trans h.tape,k.output.trans h.output,Nat.le_trans h.size k.size,fun i o ho hn=>k.keep i o (h.keep i o ho hn) fun hS=>hn (hs i o ho hS)⟩
theorem Chg.drew (h:Chg S a w):Chg S a w.drew:=⟨h.os,h.tape,h.output,h.size,h.keep⟩
theorem Chg.drewN (h:Chg S a w) (n:Nat):Chg S a (w.drewN n):=⟨h.os,h.tape,h.output,h.size,h.keep⟩
theorem lt_of_heap {w:World} {k:Nat} {o:Obj} (h:w.heap[k]? = some o):k<w.heap.size:=(Array.getElem?_eq_some_iff.1 h).1
theorem Chg.alloc (h:Chg S a w) (o:Obj):Chg S a (w.alloc o):=
 h.trans ⟨rfl,rfl,rfl,by simp,fun k o' hk _=>(Below.heap_alloc w o k (lt_of_heap hk)).trans hk⟩
theorem Chg.setCell (h:Chg S a w) {p:Addr} (hp:a.heap.size≤p.block∨∀ o,S p.block o) (u:Value):Chg S a (w.setCell p u):=by
 refine ⟨h.os,h.tape,h.output,by simpa [World.setCell] using h.size,fun k o ho hn=>?_⟩
 rw [Below.heap_setCell _ _ _ _ (fun e=>?_)]
 ·exact h.keep k o ho hn
 ·subst e
  rcases hp with hp | hp
  ·have:=lt_of_heap ho; omega
  ·exact hn (hp o)
theorem Chg.grown (h:Chg S a w) {row:Option Nat} (hg:w.grownBy w' row) (hr:∀ k o,row=some k→a.heap[k]? = some o→S k o):Chg S a w':=
 ⟨hg.os.trans h.os,hg.tape.trans h.tape,hg.output.trans h.output,Nat.le_trans h.size hg.size,fun k o ho hn=>by
  have h1:=h.keep k o ho hn
  rw [hg.block k (lt_of_heap h1) (fun e=>hn (hr k o e.symm ho))]
  exact h1⟩
theorem Chg.of_below {B:Nat} (h:Below B w w') (hS:∀ k o,B≤k→w.heap[k]? = some o→S k o):Chg S w w':=
 ⟨h.os,h.tape,h.output,h.size,fun k o ho hn=>by
  rcases Nat.lt_or_ge k B with hk | hk
  ·exact (h.block k hk).trans ho
  ·exact absurd (hS k o hk ho) hn⟩
theorem Chg.of_new (h:Below w.heap.size w w'):Chg S w w':=.of_below h fun k o hk ho=>by have:=lt_of_heap ho; omega
theorem Chg.below {B:Nat} (h:Chg S w w') (hS:∀ k o,w.heap[k]? = some o→S k o→B≤k) (hB:B≤w.heap.size):Below B w w':=
 ⟨h.os,h.tape,h.output,h.size,fun k hk=>by
  have hk':k<w.heap.size:=by omega
  have ho:w.heap[k]? = some w.heap[k]:=Array.getElem?_eq_getElem hk'
  rw [h.keep k _ ho (fun hs=>by have:=hS k _ ho hs; omega),ho]⟩
theorem Blk.chg {g:Nat} {t:TypeId} {cs:Array Value} (h:Blk w g t cs) (hc:Chg S w w') (hn:¬ S g (.cells cs t (0,0))):Blk w' g t cs:=hc.keep g _ h hn
theorem own_chg {base:Nat} {e:TypeId} {size n:Nat} {v:Value} {xs:List Value} (h:w.ownsRow base e size v n xs) (hc:Chg S w w')
  (hn:∀ g cur,base≤g→v.ownBlock=some g→¬ S g (.cells cur e (0,0))):w'.ownsRow base e size v n xs:=by
 refine ⟨h.1,?_⟩
 rcases h.2 with h0 | ⟨g,cap,cur,rfl,hb,hg,rest⟩
 ·exact .inl h0
 ·exact .inr ⟨g,cap,cur,rfl,hb,hc.keep g _ hg (hn g cur hb rfl),rest⟩
theorem ownsMap_chg {H:Type} {P:Program} {k:TypeId} {R:Value→Option (DataW H×List MemPlace)} {b n:Nat} {D:DataW H} (h:w.ownsMap P k R b n D) (hc:Chg S w w')
  (hn:∀ es clock,¬ S b (.map es clock)):w'.ownsMap P k R b n D:=by
 obtain ⟨es,clock,hb,rest⟩:=h
 exact ⟨es,clock,hc.keep b _ hb (hn es clock),rest⟩
theorem map_ne_blk {H:Type} {P:Program} {k:TypeId} {R:Value→Option (DataW H×List MemPlace)} {m n b:Nat} {D:DataW H} {t:TypeId} {cs:Array Value} (h:w.ownsMap P k R m n D) (hb:Blk w b t cs):m≠b:=by
 rintro rfl
 obtain ⟨es,c,hm,_⟩:=h
 unfold Blk at hb
 rw [hm] at hb
 cases hb
theorem map_ne_own {H:Type} {P:Program} {k:TypeId} {R:Value→Option (DataW H×List MemPlace)} {m n:Nat} {D:DataW H} {base:Nat} {e:TypeId} {size n':Nat} {v:Value} {xs:List Value} (h:w.ownsMap P k R m n D) (ho:w.ownsRow base e size v n' xs):v.ownBlock≠some m:=by
 rcases ho.2 with ⟨rfl,_⟩ | ⟨g,cap,cur,rfl,_,hg,_⟩
 ·simp [Value.ownBlock]
 ·simp only [Value.ownBlock,ne_eq,Option.some.injEq]
  rintro rfl
  obtain ⟨es,c,hm,_⟩:=h
  rw [hm] at hg
  cases hg
theorem own_base {base base':Nat} {e:TypeId} {size n:Nat} {v:Value} {xs:List Value} (h:w.ownsRow base e size v n xs) (hb:base'≤base):w.ownsRow base' e size v n xs:=by
 refine ⟨h.1,?_⟩
 rcases h.2 with h0 | ⟨g,cap,cur,rfl,hbb,rest⟩
 ·exact .inl h0
 ·exact .inr ⟨g,cap,cur,rfl,by omega,rest⟩
end
theorem reads_new {w:World} {B size m g:Nat} {xs:List Value} {t:TypeId} (hg:w.heap.size=g) (hB:g<B) (hl:xs.length=m*size) :
  Reads (w.alloc (.cells xs.toArray t)) B size (some ⟨g,0,none⟩) m xs:=by
 subst hg
 refine ⟨hl,fun _=>⟨_,rfl,hB,fun j u hu=>?_⟩⟩
 have hadd:(⟨w.heap.size,0,none⟩:Addr).add j=⟨w.heap.size,j,none⟩:=by unfold Addr.add; split <;> simp_all
 rw [hadd,(Blk.new w t xs.toArray).cell j]
 simpa using hu
theorem wrap64_id {x:Int} (h1 : -1000000000000000≤x) (h2:x≤1000000000000000):wrap64 x=x:=by
 unfold wrap64; omega
theorem le_maxLen {n:Nat} (h:n≤1000000):n≤maxLen:=by unfold maxLen; omega
theorem le_bytes {n b:Nat} (h:n≤1000000) (hb:b≤1000):n*b≤140737488355328:=
 Nat.le_trans (Nat.mul_le_mul h hb) (by omega)
theorem own_form {w:World} {base:Nat} {e:TypeId} {size n:Nat} {v:Value} {xs:List Value} (h:w.ownsRow base e size v n xs):∃ A c,v = .slice A n c:=by
 rcases h.2 with ⟨h,h0⟩ | ⟨g,cap,_,h,_⟩
 ·exact ⟨none,0,by rw [h,h0]⟩
 ·exact ⟨_,_,h⟩
section
variable {P:Program} (w:World)
theorem step_append_sl {ops:Array Oper} {o:Oper} {a:Act} {K:Act→World→Prop} {Q:Exit→Act→World→Prop} {E:Prop} (hgd:o.guard=none) (s x:Operand) (t:TypeId)
  (ho:o.op = .call { callee:=.builtin .append,args:=#[s,x],argTypes:=#[t,t] })
  (base:Nat) (e:TypeId) (i:TypeInfo) (z:Value) (size bytes:Nat) (ht:P.underlying t=some (.slice e)) (hi:P.info? e=some i) (hz:i.zero=some z)
  (hsize:i.size=size) (hby:i.bytes=bytes) (hzs:z.cells.size=size) (hsz:0<size)
  (v:Value) (n:Nat) (xs:List Value) (hs:a.eval s=v) (hown:w.ownsRow base e size v n xs)
  (B:Nat) (A:Option Addr) (m c:Nat) (news:List Value) (hx:a.eval x = .slice A m c) (hr:Reads w B size A m news) (h1:∀ u∈news,u.oneCell'=true)
  (h63:n+m≤maxLen) (hbytes:(n+m)*bytes≤140737488355328) (hbase:base≤w.heap.size)
  (h:∀ A' c' w',w'.ownsRow base e size (.slice A' (n+m) c') (n+m) (xs++news)→w.grownBy w' v.ownBlock→K (a.put o.dst (.slice A' (n+m) c')) w') :
  if Region.wanted o (yielded ops a.tmps)=true then Oper.wp P o a w K Q else E:=
 step_append_any w hgd s x t ho base e i z size bytes ht hi hz hsize hby hzs hsz v n xs hs hown B A m c news hx hr h1 h63 hbytes hbase fun v' w' h2 h3 _=>by
  obtain ⟨A',c',rfl⟩:=own_form h2
  exact h A' c' w' h2 h3
theorem wpList_append_sl {ops:Array Oper} {rest:List Oper} {o:Oper} {a:Act} {Q:Exit→Act→World→Prop} (hgd:o.guard=none) (s x:Operand) (t:TypeId)
  (ho:o.op = .call { callee:=.builtin .append,args:=#[s,x],argTypes:=#[t,t] })
  (base:Nat) (e:TypeId) (i:TypeInfo) (z:Value) (size bytes:Nat) (ht:P.underlying t=some (.slice e)) (hi:P.info? e=some i) (hz:i.zero=some z)
  (hsize:i.size=size) (hby:i.bytes=bytes) (hzs:z.cells.size=size) (hsz:0<size)
  (v:Value) (n:Nat) (xs:List Value) (hs:a.eval s=v) (hown:w.ownsRow base e size v n xs)
  (B:Nat) (A:Option Addr) (m c:Nat) (news:List Value) (hx:a.eval x = .slice A m c) (hr:Reads w B size A m news) (h1:∀ u∈news,u.oneCell'=true)
  (h63:n+m≤maxLen) (hbytes:(n+m)*bytes≤140737488355328) (hbase:base≤w.heap.size)
  (h:∀ A' c' w',w'.ownsRow base e size (.slice A' (n+m) c') (n+m) (xs++news)→w.grownBy w' v.ownBlock→wpList P ops Q rest (a.put o.dst (.slice A' (n+m) c')) w'):wpList P ops Q (o::rest) a w:=
 wpList_append_any w hgd s x t ho base e i z size bytes ht hi hz hsize hby hzs hsz v n xs hs hown B A m c news hx hr h1 h63 hbytes hbase fun v' w' h2 h3 _=>by
  obtain ⟨A',c',rfl⟩:=own_form h2
  exact h A' c' w' h2 h3
end
theorem ints_one {l:List Value} (h:∀ u∈l,∃ n,u = .int .i64 n):∀ u∈l,u.oneCell'=true:=fun u hu=>by
 obtain ⟨n,rfl⟩:=h u hu; rfl
end Go.Proofs.YthkhfbofhdfdoaaGreatDoor
namespace Go.Proofs.YthkhfbofhdfdoaaGreatDoor
open Go.RowKit
theorem laidOut:laidOutB Tryz.prog=true:=by kernel_rfl
end Go.Proofs.YthkhfbofhdfdoaaGreatDoor
namespace Go.Proofs.YthkhfbofhdfdoaaGreatDoor
open Go.RowKit
def kl (x y:Int):Lit:=.string (keyBytes [.int .i64 x,.int .i64 y])
theorem rowKey:(133:TypeId)<Tryz.prog.types.size:=of_decide_eq_true (by kernel_rfl)
theorem wideKey:(match Tryz.prog.underlying 133 with | some (.array _ _) | some (.struct _)=>true | _=>false)=true:=by rw [Tryz.underlying133]
set_option maxRecDepth 100000 in
theorem lawKey:Maps.Keyed Tryz.prog 133:=.of_law (deep_law_laid laidOut (m:=2) (by omega) rowKey (by kernel_rfl) wideKey)
theorem keyType:Tryz.prog.keyType 133=true:=by kernel_rfl
theorem cellsKey:Tryz.prog.cellsOf 133=2:=by kernel_rfl
theorem cellsLit:Tryz.prog.cellsOf 29=1:=by kernel_rfl
theorem ex_pred {n k:Nat} (h:k<n):∃ m,n=m+1:=⟨n-1,by omega⟩
theorem typesSize:∃ m,Tryz.prog.types.size=m+1:=ex_pred rowKey
theorem keyOf_two (x y:Int) (hx:(Lit.int .i64 x).wf=true) (hy:(Lit.int .i64 y).wf=true):keyOf Tryz.prog 133 (.agg #[.int .i64 x,.int .i64 y])=some (kl x y):=by
 have hf:Value.formed Tryz.prog 133 (.agg #[.int .i64 x,.int .i64 y])=true:=by
  unfold Value.formed; simp only [Tryz.underlying133,cellsKey]; rfl
 obtain ⟨m,hm⟩:=typesSize
 unfold keyOf
 rw [Tryz.underlying133]
 simp only [keyType,hf,Bool.and_self,if_true]
 rw [hm]
 simp [Program.keyLits,Tryz.underlying133,Tryz.underlying29,cellsKey,cellsLit,Value.cells,hx,hy,List.range_succ,kl]
theorem kl_inj {x y x' y':Int} (hx:(Lit.int .i64 x).wf=true) (hy:(Lit.int .i64 y).wf=true) (hx':(Lit.int .i64 x').wf=true) (hy':(Lit.int .i64 y').wf=true) (h:kl x y=kl x' y'):x=x'∧y=y':=by
 have h1:=keyOf_two x y hx hy
 have h2:=keyOf_two x' y' hx' hy'
 rw [← h] at h2
 have:=lawKey.inj h1 h2
 simpa using this
theorem zeroInt (w:World):(zeroValue 3).run Tryz.prog w = .ok (.int .i64 0) w:=by kernel_rfl
end Go.Proofs.YthkhfbofhdfdoaaGreatDoor
namespace Go.Proofs.YthkhfbofhdfdoaaGreatDoor
open Go.RowKit
def litVals (l:List Int):List Value:=l.map fun x=>.int .i64 x
def boolVals (l:List Bool):List Value:=l.map Value.bool
end Go.Proofs.YthkhfbofhdfdoaaGreatDoor
namespace Go.Proofs.YthkhfbofhdfdoaaGreatDoor
section
variable {P:Program} {ops:Array Oper} {w:World} {Q:Act→Prop} {a:Act} {o:Oper} {rest:List Oper}
theorem still_want (hw:Region.wanted o (yielded ops a.tmps)=true) (h:∀ K:Act→Prop,(∀ a,wpStill P ops w Q rest a→K a)→o.still P a w K):wpStill P ops w Q (o::rest) a:=
 wpStill_step fun K hK=>by rw [if_pos hw]; exact h K hK
end
end Go.Proofs.YthkhfbofhdfdoaaGreatDoor
namespace Go.Proofs.YthkhfbofhdfdoaaGreatDoor
section
variable {P:Program} {ops:Array Oper} {md:Region.Mode} {S:World→Prop} {Q:Exit→Act→World→Prop}
def wpSeq (P:Program) (ops:Array Oper) (S:World→Prop) (Q:Exit→Act→World→Prop):List (Nat×Bool)→Act→World→Prop
 | [],a,w=>Q .normal a w
 | (i,false)::r,a,w=>∃ oi v,ops[i]? = some oi∧YieldsIf P ops S oi v a∧wpSeq P ops S Q r (a.put oi.dst v) w
 | (i,true)::r,a,w=>wpOp P ops Q i (fun a' w'=>S w'∧wpSeq P ops S Q r a' w') a w
def okSeq (md:Region.Mode) (ops:Array Oper):List (Nat×Bool)→Array Bool→Bool
 | [],listed=>(Region.ready md ops listed).isEmpty
 | (i,false)::r,listed=>Region.free md ops listed i&&(Region.ready md ops listed).contains i&&okSeq md ops r (listed.setIfInBounds i true)
 | (i,true)::r,listed=>(Region.ready md ops listed == [i])&&okSeq md ops r (listed.setIfInBounds i true)
theorem wpAnyH_seq (hsel:Region.noSelect ops=true) (hQ:∀ c (a:Act) d v w,Q (.panic c) (a.put d v) w→Q (.panic c) a w) :
  ∀ (l:List (Nat×Bool)) (listed:Array Bool) (a:Act) (w:World),okSeq md ops l listed=true→S w→wpSeq P ops S Q l a w→wpAnyH P md ops Q S l.length listed a w
 | [],listed,a,w,hok,_,h=>wpAnyH_done (by simpa [okSeq] using hok) h 0
 | (i,false)::r,listed,a,w,hok,hS,h=>by
  simp only [okSeq,Bool.and_eq_true] at hok
  obtain ⟨oi,v,ho,hy,h⟩:=h
  exact wpAnyH_take ho hsel hok.1.1 hok.1.2 (fun c a w=>hQ c a _ _ w) hy hS (wpAnyH_seq hsel hQ r _ _ _ hok.2 hS h)
 | (i,true)::r,listed,a,w,hok,hS,h=>by
  simp only [okSeq,Bool.and_eq_true,beq_iff_eq] at hok
  refine wpAnyH_all hok.1 (by simp) fun j hj=>?_
  obtain rfl:=List.mem_singleton.1 hj
  exact wpOp_mono (fun a' w' h'=>⟨h'.1,wpAnyH_seq hsel hQ r _ _ _ hok.2 h'.1 h'.2⟩) h
theorem wp_region_seq {id:Nat} {a:Act} {w:World} (l:List (Nat×Bool)) (hm:P.follows .mixedOrders=true) (hsel:Region.noSelect ops=true) (hok:(okSeq .any ops l (Array.replicate ops.size false)&&l.length == ops.size)=true)
  (hS:S w.drew) (h:wpSeq P ops S (NoPanic Q) l a w.drew):(Code.region id ops true).wp P Q a w:=by
 simp only [Bool.and_eq_true,beq_iff_eq] at hok
 have:=wpAnyH_seq hsel (fun _ _ _ _ _ h=>h) l _ a _ hok.1 hS h
 rw [hok.2] at this
 exact wp_region_noPanic (wp_region_held hm this)
theorem seq_take {i:Nat} {r:List (Nat×Bool)} {a:Act} {w:World} (oi:Oper) (v:Value) (ho:ops[i]? = some oi) (hw:Region.wanted oi (yielded ops a.tmps)=true)
  (hy:∀ w,S w→(execOp a.eval oi).run P w = .ok (.value v) w) (h:wpSeq P ops S Q r (a.put oi.dst v) w):wpSeq P ops S Q ((i,false)::r) a w:=⟨oi,v,ho,.inl ⟨hw,hy⟩,h⟩
theorem seq_act {i:Nat} {r:List (Nat×Bool)} {a:Act} {w:World} (oi:Oper) (ho:ops[i]? = some oi)
  (h:∀ K:Act→World→Prop,(∀ a w,S w→wpSeq P ops S Q r a w→K a w)→if Region.wanted oi (yielded ops a.tmps)=true then Oper.wp P oi a w K Q else K (a.put oi.dst undef) w):wpSeq P ops S Q ((i,true)::r) a w:=by
 show wpOp P ops Q i _ a w
 exact wpOp_step ho fun K' hK=>h K' fun a w hS hs=>hK a w ⟨hS,hs⟩
theorem seq_nil {a:Act} {w:World} (h:Q .normal a w):wpSeq P ops S (NoPanic Q) [] a w:=NoPanic.normal h
end
end Go.Proofs.YthkhfbofhdfdoaaGreatDoor
namespace Go.Proofs.YthkhfbofhdfdoaaGreatDoor
section
variable {P:Program} {ops:Array Oper} {md:Region.Mode} {S:World→Prop} {Q:Exit→Act→World→Prop}
def YieldsC (P:Program) (ops:Array Oper) (S:World→Prop) (o:Oper) (v:Value) (a:Act):Prop:=
 YieldsIf P ops S o v a∨(Region.wanted o (yielded ops a.tmps)=true∧∃ f args,∀ w,S w→(execOp a.eval o).run P w = .ok (.enter f args) w∧Calls P f args w fun e w'=>e = .returned v∧w=w')
theorem YieldsC.weak {o:Oper} {v:Value} {a:Act} (h:YieldsC P ops S o v a):YieldsIf P ops (fun _=>False) o v a:=by
 rcases h with h | ⟨h,_⟩
 ·exact h.imp (fun ⟨h1,_⟩=>⟨h1,fun _ h=>h.elim⟩) id
 ·exact .inl ⟨h,fun _ h=>h.elim⟩
theorem YieldsC.same {o:Oper} {v:Value} {a a':Act} (h:YieldsC P ops S o v a) (he:execOp a'.eval o=execOp a.eval o)
  (hw:Region.wanted o (yielded ops a'.tmps)=Region.wanted o (yielded ops a.tmps)):YieldsC P ops S o v a':=by
 unfold YieldsC YieldsIf at *
 rw [he,hw]; exact h
theorem YieldsC.wpOp {i:Nat} {o:Oper} {v:Value} {a:Act} (hi:ops[i]? = some o) (hy:YieldsC P ops S o v a) {K:Act→World→Prop} {w:World} (hS:S w) (h:K (a.put o.dst v) w):wpOp P ops Q i K a w:=by
 rcases hy with hy | ⟨hw,f,args,hc⟩
 ·exact hy.wpOp hi hS h
 ·obtain ⟨h1,h2⟩:=hc w hS
  unfold Go.wpOp
  simp only [hi,hw,if_true]
  refine .inl ?_
  unfold Oper.wp
  rw [h1,Oper.upon_enter]
  refine h2.mono ?_
  rintro e w' ⟨rfl,rfl⟩
  exact h
theorem wpOp_keepZ {Z:Act→Prop} {j:Nat} {oj:Oper} (hj:ops[j]? = some oj) (hz:∀ a u,Z a→Z (a.put oj.dst u)) (hd:∀ (a:Act) d,Z a→Z { a with defers:=d::a.defers })
  {K:Act→World→Prop} {a:Act} {w:World} (ha:Z a) (h:wpOp P ops Q j K a w):wpOp P ops Q j (fun a' w'=>Z a'∧K a' w') a w:=by
 unfold Go.wpOp at *
 simp only [hj] at *
 by_cases hw:Region.wanted oj (yielded ops a.tmps)=true
 ·simp only [hw,if_true] at h ⊢
  refine h.imp (fun h=>?_) id
  unfold Oper.wp at *
  generalize (execOp a.eval oj).run P w=r at *
  cases r with
  | ok n w'=>
   cases n with
   | value u=>exact ⟨hz _ _ ha,h⟩
   | skip=>exact ⟨hz _ _ ha,h⟩
   | defer d=>exact ⟨hz _ _ (hd _ d ha),h⟩
   | enter f args=>
    refine Calls.mono h fun e w'' he=>?_
    cases e with
    | returned u=>exact ⟨hz _ _ ha,he⟩
    | panicked c=>exact he
    | outgrown=>exact he
   | row row args=>exact Rows.mono h fun u w'' he=>⟨hz _ _ ha,he⟩
   | _=>exact h
  | halt x w'=>cases x <;> exact h
 ·simp only [hw,Bool.false_eq_true,if_false] at h ⊢
  exact ⟨hz _ _ ha,h⟩
theorem wpOp_putC {j:Nat} {oi oj:Oper} {v:Value} (hj:ops[j]? = some oj) (hap:oi.apart ops oj=true) (hsi:∀ cs b,oi.op≠.select cs b) (hsj:∀ cs b,oj.op≠.select cs b)
  (hQ:∀ c a w,Q (.panic c) (a.put oi.dst v) w→Q (.panic c) a w) {K:Act→World→Prop} {a:Act} {w:World} (hy:YieldsC P ops S oi v a) (h:wpOp P ops Q j K (a.put oi.dst v) w) :
  wpOp P ops Q j (fun a' w'=>YieldsC P ops S oi v a'∧K (a'.put oi.dst v) w') a w:=by
 have h3:=(Oper.apart_spec hap).2.2
 have h1:=wpOp_putIf hj hap hsi hsj hQ hy.weak h
 exact wpOp_mono (fun a' w' h=>⟨h.1,h.2.2⟩) (wpOp_keepZ (Z:=YieldsC P ops S oi v) hj (fun a u hy=>hy.same (execOp_put oi hsi a oj.dst u h3) (wanted_put oi a oj.dst u h3)) (fun a d hy=>hy.same rfl rfl) hy h1)
def wpAnyC (P:Program) (md:Region.Mode) (ops:Array Oper) (n:Nat) (Q:Exit→Act→World→Prop) (S:World→Prop):Nat→Array Bool→Act→World→Prop
 | 0,listed,a,w=>Region.ready md ops listed=[]∧Q .normal a w
 | fuel+1,listed,a,w=>(Region.ready md ops listed=[]→Q .normal a w) ∧
  ∀ i∈Region.ready md ops listed,wpOp P ops Q i (fun a' w'=>(i=n∨S w')∧wpAnyC P md ops n Q S fuel (listed.setIfInBounds i true) a' w') a w
theorem wpAnyC_any {n:Nat}:∀ (fuel:Nat) (listed:Array Bool) (a:Act) (w:World),wpAnyC P md ops n Q S fuel listed a w→wpAny P md ops Q fuel listed a w
 | 0,_,_,_,h=>h
 | fuel+1,_,_,_,h=>⟨h.1,fun i hi=>wpOp_mono (fun a' w' h'=>wpAnyC_any fuel _ a' w' h'.2) (h.2 i hi)⟩
def waits (md:Region.Mode) (ops:Array Oper) (n i:Nat):Bool:=match ops[n]? with
 | some o=>o.after.any fun e=>Region.binds md e&&e.on == i
 | none=>true
theorem ready_on {i j:Nat} {oj:Oper} {listed:Array Bool} (hj:j∈Region.ready md ops listed) (hi:i∈Region.ready md ops listed) (hoj:ops[j]? = some oj):∀ e∈oj.after,Region.binds md e=true→e.on≠i:=by
 obtain ⟨_,o,ho,hall⟩:=mem_ready.1 hj
 obtain rfl:o=oj:=by rw [ho] at hoj; injection hoj
 intro e he hb heq
 have h1:=hall e he hb
 have h0:=(mem_ready.1 hi).1
 rw [heq] at h1
 rcases Nat.lt_or_ge i listed.size with h' | h'
 ·simp [h'] at h0 h1; rw [h0] at h1; cases h1
 ·simp [Array.getElem?_eq_none h'] at h1
theorem waits_ne {n i j:Nat} {listed:Array Bool} (hw:waits md ops n i=true) (hj:j∈Region.ready md ops listed) (hi:i∈Region.ready md ops listed):j≠n:=by
 rintro rfl
 obtain ⟨_,oj,hoj,_⟩:=mem_ready.1 hj
 unfold waits at hw
 rw [hoj] at hw
 simp only [Array.any_eq_true',Bool.and_eq_true,beq_iff_eq] at hw
 obtain ⟨e,he,hb,ho⟩:=hw
 exact ready_on hj hi hoj e he hb ho
theorem wpAnyC_first {n i:Nat} {oi:Oper} {v:Value} (hi:ops[i]? = some oi) (hw:waits md ops n i=true) (hsel:∀ (j:Nat) (o:Oper) cs b,ops[j]? = some o→o.op≠.select cs b)
  (hQ:∀ c a w,Q (.panic c) (a.put oi.dst v) w→Q (.panic c) a w):∀ (fuel:Nat) (listed:Array Bool) (a:Act) (w:World),
   (∀ j oj,ops[j]? = some oj→j≠i→listed.getD j true=false→(∀ e∈oj.after,Region.binds md e=true→e.on≠i)→oi.apart ops oj=true) →
   i∈Region.ready md ops listed→YieldsC P ops S oi v a→S w→wpAnyC P md ops n Q S fuel (listed.setIfInBounds i true) (a.put oi.dst v) w→wpAnyC P md ops n Q S (fuel+1) listed a w
 | 0,listed,a,w,_,hr,hy,hS,H=>by
  refine ⟨fun h=>(by rw [h] at hr; cases hr),fun j hj=>?_⟩
  rcases Nat.decEq j i with hji | rfl
  ·have h:=ready_mono hj hji
   rw [H.1] at h; cases h
  ·exact hy.wpOp hi hS ⟨.inr hS,H⟩
 | fuel+1,listed,a,w,hfree,hr,hy,hS,H=>by
  refine ⟨fun h=>(by rw [h] at hr; cases hr),fun j hj=>?_⟩
  rcases Nat.decEq j i with hji | rfl
  ·obtain ⟨hjun,oj,hoj,hall⟩:=mem_ready.1 hj
   have h2:=wpOp_putC hoj (hfree j oj hoj hji hjun (ready_on hj hr hoj)) (fun cs b=>hsel i oi cs b hi) (fun cs b=>hsel j oj cs b hoj) hQ hy (H.2 j (ready_mono hj hji))
   refine wpOp_mono (fun a' w' h3=>?_) h2
   have hS':=h3.2.1.resolve_left (waits_ne hw hj hr)
   refine ⟨.inr hS',wpAnyC_first hi hw hsel hQ fuel _ a' w' (fun k ok hk hki hun hno=>?_) (ready_mono hr (Ne.symm hji)) h3.1 hS' ?_⟩
   ·refine hfree k ok hk hki ?_ hno
    by_cases hjk:j=k
    ·subst hjk; exact hjun
    ·rw [getD_set_ne true hjk] at hun; exact hun
   ·rw [Array.setIfInBounds_comm _ _ hji]; exact h3.2.2
  ·exact hy.wpOp hi hS ⟨.inr hS,H⟩
inductive Mv where
 | f (i:Nat)
 | t (i:Nat)
 | all (i j k:Nat)
def Mv.cost:Mv→Nat
 | .all .. => 3
 | _=>1
def costs:List Mv→Nat
 | []=>0
 | m::r=>costs r+m.cost
def okMv (md:Region.Mode) (ops:Array Oper) (n:Nat):List Mv→Array Bool→Bool
 | [],l=>(Region.ready md ops l).isEmpty
 | .f i::r,l=>waits md ops n i&&Region.free md ops l i&&(Region.ready md ops l).contains i&&okMv md ops n r (l.setIfInBounds i true)
 | .t i::r,l=>Region.ready md ops l == [i]&&(i != n||r.isEmpty)&&okMv md ops n r (l.setIfInBounds i true)
 | .all i j k::r,l=>Region.ready md ops l == [i,j,k]&&Region.ready md ops (l.setIfInBounds i true) == [j,k]&&Region.ready md ops (l.setIfInBounds j true) == [i,k]&&Region.ready md ops (l.setIfInBounds k true) == [i,j]
   && Region.ready md ops ((l.setIfInBounds i true).setIfInBounds j true) == [k]&&Region.ready md ops ((l.setIfInBounds i true).setIfInBounds k true) == [j]
   && Region.ready md ops ((l.setIfInBounds j true).setIfInBounds i true) == [k]&&Region.ready md ops ((l.setIfInBounds j true).setIfInBounds k true) == [i]
   && Region.ready md ops ((l.setIfInBounds k true).setIfInBounds i true) == [j]&&Region.ready md ops ((l.setIfInBounds k true).setIfInBounds j true) == [i]
   && i != j&&i != k&&j != k
   && okMv md ops n r (((l.setIfInBounds i true).setIfInBounds j true).setIfInBounds k true)
def wpS (P:Program) (ops:Array Oper) (S:World→Prop) (Q:Exit→Act→World→Prop) (i:Nat) (K:Act→World→Prop) (a:Act) (w:World):Prop:=wpOp P ops Q i (fun a w=>S w∧K a w) a w
def wpTwo (P:Program) (ops:Array Oper) (S:World→Prop) (Q:Exit→Act→World→Prop) (i j:Nat) (K:Act→World→Prop) (a:Act) (w:World):Prop:=wpS P ops S Q i (wpS P ops S Q j K) a w∧wpS P ops S Q j (wpS P ops S Q i K) a w
def wpMv (P:Program) (ops:Array Oper) (n:Nat) (S:World→Prop) (Q:Exit→Act→World→Prop):List Mv→Act→World→Prop
 | [],a,w=>Q .normal a w
 | .f i::r,a,w=>∃ oi v,ops[i]? = some oi∧YieldsC P ops S oi v a∧wpMv P ops n S Q r (a.put oi.dst v) w
 | .t i::r,a,w=>wpOp P ops Q i (fun a' w'=>(i=n∨S w')∧wpMv P ops n S Q r a' w') a w
 | .all i j k::r,a,w=>wpS P ops S Q i (wpTwo P ops S Q j k (wpMv P ops n S Q r)) a w∧wpS P ops S Q j (wpTwo P ops S Q i k (wpMv P ops n S Q r)) a w∧wpS P ops S Q k (wpTwo P ops S Q i j (wpMv P ops n S Q r)) a w
theorem anyC_one {n i:Nat} {fuel:Nat} {listed:Array Bool} {a:Act} {w:World} (hr:Region.ready md ops listed=[i]) (h:wpS P ops S Q i (fun a w=>S w→wpAnyC P md ops n Q S fuel (listed.setIfInBounds i true) a w) a w) :
  wpAnyC P md ops n Q S (fuel+1) listed a w:=by
 refine ⟨fun h=>(by rw [h] at hr; cases hr),fun j hj=>?_⟩
 rw [hr] at hj
 obtain rfl:=List.mem_singleton.1 hj
 exact wpOp_mono (fun a' w' h'=>⟨.inr h'.1,h'.2 h'.1⟩) h
theorem anyC_two {n i j:Nat} {fuel:Nat} {listed:Array Bool} {a:Act} {w:World} (hij:i≠j) (hr:Region.ready md ops listed=[i,j]) (h1:Region.ready md ops (listed.setIfInBounds i true)=[j]) (h2:Region.ready md ops (listed.setIfInBounds j true)=[i])
  (h:wpTwo P ops S Q i j (fun a w=>S w→wpAnyC P md ops n Q S fuel ((listed.setIfInBounds i true).setIfInBounds j true) a w) a w):wpAnyC P md ops n Q S (fuel+2) listed a w:=by
 refine ⟨fun h=>(by rw [h] at hr; cases hr),fun x hx=>?_⟩
 rw [hr] at hx
 simp only [List.mem_cons,List.not_mem_nil,or_false] at hx
 rcases hx with rfl | rfl
 ·exact wpOp_mono (fun a' w' h'=>⟨.inr h'.1,anyC_one h1 h'.2⟩) h.1
 ·exact wpOp_mono (fun a' w' h'=>⟨.inr h'.1,anyC_one h2 (by rw [Array.setIfInBounds_comm _ _ hij.symm]; exact h'.2)⟩) h.2
theorem wpS_mono {i:Nat} {a:Act} {w:World} {K K':Act→World→Prop} (h:∀ a w,K a w→K' a w) (hh:wpS P ops S Q i K a w):wpS P ops S Q i K' a w:=wpOp_mono (fun a w h'=>⟨h'.1,h a w h'.2⟩) hh
theorem wpTwo_mono {i j:Nat} {a:Act} {w:World} {K K':Act→World→Prop} (h:∀ a w,K a w→K' a w) (hh:wpTwo P ops S Q i j K a w):wpTwo P ops S Q i j K' a w:=⟨wpS_mono (fun _ _=>wpS_mono h) hh.1,wpS_mono (fun _ _=>wpS_mono h) hh.2⟩
theorem wpAnyC_mv {n:Nat} (hsel:Region.noSelect ops=true) (hQ:∀ c (a:Act) d v w,Q (.panic c) (a.put d v) w→Q (.panic c) a w) :
  ∀ (l:List Mv) (listed:Array Bool) (a:Act) (w:World),okMv md ops n l listed=true→S w→wpMv P ops n S Q l a w→wpAnyC P md ops n Q S (costs l) listed a w
 | [],listed,a,w,hok,_,h=>by
  have h1:Region.ready md ops listed=[]:=by simpa [okMv] using hok
  exact ⟨h1,h⟩
 | .f i::r,listed,a,w,hok,hS,h=>by
  simp only [okMv,Bool.and_eq_true] at hok
  obtain ⟨oi,v,ho,hy,h⟩:=h
  exact wpAnyC_first ho hok.1.1.1 (Region.noSelect_spec hsel) (fun c a w=>hQ c a _ _ w) _ _ _ _ (Region.free_spec ho hok.1.1.2) (by simpa using hok.1.2) hy hS (wpAnyC_mv hsel hQ r _ _ _ hok.2 hS h)
 | .t i::r,listed,a,w,hok,hS,h=>by
  simp only [okMv,Bool.and_eq_true,beq_iff_eq,Bool.or_eq_true,bne_iff_ne] at hok
  refine ⟨fun h=>(by rw [h] at hok; cases hok.1.1),fun j hj=>?_⟩
  rw [hok.1.1] at hj
  obtain rfl:=List.mem_singleton.1 hj
  refine wpOp_mono (fun a' w' h'=>⟨h'.1,?_⟩) h
  by_cases hr:r=[]
  ·subst hr
   have h1:Region.ready md ops (listed.setIfInBounds j true)=[]:=by simpa [okMv] using hok.2
   exact ⟨h1,h'.2⟩
  ·have hne:j≠n:=hok.1.2.resolve_right (by simpa using hr)
   exact wpAnyC_mv hsel hQ r _ _ _ hok.2 (h'.1.resolve_left hne) h'.2
 | .all i j k::r,listed,a,w,hok,hS,h=>by
  simp only [okMv,Bool.and_eq_true,beq_iff_eq,bne_iff_ne,ne_eq] at hok
  obtain ⟨⟨⟨⟨⟨⟨⟨⟨⟨⟨⟨⟨⟨h0,hi⟩,hj⟩,hk⟩,hij⟩,hik⟩,hji⟩,hjk⟩,hki⟩,hkj⟩,nij⟩,nik⟩,njk⟩,hok⟩:=hok
  have fin:∀ (a:Act) (w:World),wpMv P ops n S Q r a w→S w→wpAnyC P md ops n Q S (costs r) (((listed.setIfInBounds i true).setIfInBounds j true).setIfInBounds k true) a w:=fun a w h hS=>wpAnyC_mv hsel hQ r _ _ _ hok hS h
  refine ⟨fun h=>(by rw [h] at h0; cases h0),fun x hx=>?_⟩
  rw [h0] at hx
  simp only [List.mem_cons,List.not_mem_nil,or_false] at hx
  rcases hx with rfl | rfl | rfl
  ·exact wpOp_mono (fun a' w' h'=>⟨.inr h'.1,anyC_two njk hi hij hik (wpTwo_mono fin h'.2)⟩) h.1
  ·exact wpOp_mono (fun a' w' h'=>⟨.inr h'.1,anyC_two nik hj hji hjk (wpTwo_mono (by rw [Array.setIfInBounds_comm _ _ (Ne.symm nij)]; exact fin) h'.2)⟩) h.2.1
  ·exact wpOp_mono (fun a' w' h'=>⟨.inr h'.1,anyC_two nij hk hki hkj (wpTwo_mono (by rw [Array.setIfInBounds_comm _ _ (Ne.symm nik),Array.setIfInBounds_comm _ _ (Ne.symm njk)]; exact fin) h'.2)⟩) h.2.2
theorem wp_region_mv {id:Nat} {a:Act} {w:World} (n:Nat) (l:List Mv) (hm:P.follows .mixedOrders=true) (hsel:Region.noSelect ops=true) (hok:(okMv .any ops n l (Array.replicate ops.size false)&&costs l == ops.size)=true)
  (hS:S w.drew) (h:wpMv P ops n S (NoPanic Q) l a w.drew):(Code.region id ops true).wp P Q a w:=by
 simp only [Bool.and_eq_true,beq_iff_eq] at hok
 have:=wpAnyC_mv hsel (fun _ _ _ _ _ h=>h) l _ a _ hok.1 hS h
 rw [hok.2] at this
 exact wp_region_noPanic (wp_region_any hm (wpAnyC_any _ _ _ _ this))
theorem mv_take {n i:Nat} {r:List Mv} {a:Act} {w:World} (oi:Oper) (v:Value) (ho:ops[i]? = some oi) (hw:Region.wanted oi (yielded ops a.tmps)=true)
  (hy:∀ w,S w→(execOp a.eval oi).run P w = .ok (.value v) w) (h:wpMv P ops n S Q r (a.put oi.dst v) w):wpMv P ops n S Q (.f i::r) a w:=⟨oi,v,ho,.inl (.inl ⟨hw,hy⟩),h⟩
theorem mv_quiet {n i:Nat} {r:List Mv} {a:Act} {w:World} (oi:Oper) (v:Value) (f:FuncId) (args:Array Value) (ho:ops[i]? = some oi) (hw:Region.wanted oi (yielded ops a.tmps)=true)
  (hy:∀ w,S w→(execOp a.eval oi).run P w = .ok (.enter f args) w) (hc:∀ w,S w→Calls P f args w fun e w'=>e = .returned v∧w=w') (h:wpMv P ops n S Q r (a.put oi.dst v) w) :
  wpMv P ops n S Q (.f i::r) a w:=⟨oi,v,ho,.inr ⟨hw,f,args,fun w hS=>⟨hy w hS,hc w hS⟩⟩,h⟩
theorem mv_act {n i:Nat} {r:List Mv} {a:Act} {w:World} (oi:Oper) (ho:ops[i]? = some oi)
  (h:∀ K:Act→World→Prop,(∀ a w,(i=n∨S w)→wpMv P ops n S Q r a w→K a w)→if Region.wanted oi (yielded ops a.tmps)=true then Oper.wp P oi a w K Q else K (a.put oi.dst undef) w):wpMv P ops n S Q (.t i::r) a w:=by
 show wpOp P ops Q i _ a w
 exact wpOp_step ho fun K' hK=>h K' fun a w hS hs=>hK a w ⟨hS,hs⟩
theorem mv_nil {n:Nat} {a:Act} {w:World} (h:Q .normal a w):wpMv P ops n S (NoPanic Q) [] a w:=NoPanic.normal h
def Makes (P:Program) (ops:Array Oper) (e:TypeId) (o:Oper) (xs:List Value) (a:Act):Prop:=
 Region.wanted o (yielded ops a.tmps)=true∧∀ w,(execOp a.eval o).run P w = .ok (.value (.slice (some ⟨w.heap.size,0,none⟩) xs.length xs.length)) (w.alloc (.cells xs.toArray e))
theorem Makes.same {e:TypeId} {o:Oper} {xs:List Value} {a:Act} (h:Makes P ops e o xs a) {x:Oper} (hap:o.apart ops x=true) (hs:∀ cs b,o.op≠.select cs b) (v:Value):Makes P ops e o xs (a.put x.dst v):=by
 have h3:=(Oper.apart_spec hap).2.2
 unfold Makes
 rw [execOp_put o hs a x.dst v h3,wanted_put o a x.dst v h3]
 exact h
theorem Makes.step {e:TypeId} {i:Nat} {o:Oper} {xs:List Value} {a:Act} {w:World} (ho:ops[i]? = some o) (h:Makes P ops e o xs a) {K:Act→World→Prop} (hS:S (w.alloc (.cells xs.toArray e)))
  (hK:K (a.put o.dst (.slice (some ⟨w.heap.size,0,none⟩) xs.length xs.length)) (w.alloc (.cells xs.toArray e))):wpS P ops S Q i K a w:=by
 unfold wpS Go.wpOp
 simp only [ho,h.1,if_true]
 refine .inl ?_
 unfold Oper.wp
 rw [h.2 w,Oper.upon_value]
 exact ⟨hS,hK⟩
end
end Go.Proofs.YthkhfbofhdfdoaaGreatDoor
namespace Go.Proofs.YthkhfbofhdfdoaaGreatDoor
open Go.RowKit Go.WideShapes Go.ChangeShapes
section
variable {P:Program} {ops:Array Oper} {md:Region.Mode} {S:World→Prop} {Q:Exit→Act→World→Prop}
def mark (l:List Nat) (L:Array Bool):Array Bool:=l.foldl (fun L i=>L.setIfInBounds i true) L
theorem mark_snoc (l:List Nat) (i:Nat) (L:Array Bool):mark (l++[i]) L=(mark l L).setIfInBounds i true:=by unfold mark; rw [List.foldl_append]; rfl
theorem mark_at (l:List Nat):∀ (L:Array Bool) (j:Nat),(mark l L)[j]? = if j∈l∧j<L.size then some true else L[j]? := by
 induction l with
 | nil=>intro L j; rw [if_neg (by simp)]; rfl
 | cons i l ih=>
  intro L j
  show (mark l (L.setIfInBounds i true))[j]? = _
  rw [ih,Array.size_setIfInBounds,Array.getElem?_setIfInBounds]
  by_cases h1:j∈l∧j<L.size
  ·rw [if_pos h1,if_pos ⟨List.mem_cons_of_mem _ h1.1,h1.2⟩]
  ·rw [if_neg h1]
   by_cases h2:i=j
   ·subst h2
    rw [if_pos rfl]
    by_cases h3:i<L.size
    ·rw [if_pos h3,if_pos ⟨by simp,h3⟩]
    ·rw [if_neg h3,if_neg (fun h=>h3 h.2),Array.getElem?_eq_none (by omega)]
   ·rw [if_neg h2,if_neg (fun h=>?_)]
    rcases List.mem_cons.1 h.1 with e | e
    ·exact h2 e.symm
    ·exact h1 ⟨e,h.2⟩
theorem mark_same {l l':List Nat} (h:∀ i,i∈l↔i∈l') (L:Array Bool):mark l L=mark l' L:=by
 apply Array.ext_getElem?
 intro j
 rw [mark_at,mark_at]
 simp only [h]
def subsets:List Nat→List (List Nat)
 | []=>[[]]
 | i::r=>(subsets r)++(subsets r).map (i::·)
theorem mem_subsets {l idx:List Nat}:idx.filter (fun i=>l.contains i)∈subsets idx:=by
 induction idx with
 | nil=>simp [subsets]
 | cons i r ih=>
  unfold subsets
  rw [List.filter_cons]
  split
  ·exact List.mem_append_right _ (List.mem_map.2 ⟨_,ih,rfl⟩)
  ·exact List.mem_append_left _ ih
def okSub (md:Region.Mode) (ops:Array Oper) (idx:List Nat) (L:Array Bool):Bool:=(subsets idx).all fun D=>(idx.filter (fun i => !D.contains i)).isEmpty||Region.ready md ops (mark D L) == idx.filter (fun i => !D.contains i)
def wpPerm (P:Program) (ops:Array Oper) (S:World→Prop) (Q:Exit→Act→World→Prop) (T:Act→World→Prop):Nat→List Nat→Act→World→Prop
 | 0,_,a,w=>T a w
 | k+1,R,a,w=>∀ i∈R,wpS P ops S Q i (wpPerm P ops S Q T k (R.erase i)) a w
theorem filter_erase {idx l:List Nat} {i:Nat} (hn:idx.Nodup):(idx.filter (fun j => !l.contains j)).erase i=idx.filter (fun j => !(l++[i]).contains j):=by
 rw [List.Nodup.erase_eq_filter (List.Pairwise.filter _ hn),List.filter_filter]
 apply List.filter_congr
 intro j _
 simp only [List.contains_eq_mem,List.mem_append,List.mem_singleton]
 by_cases h1:j=i <;> by_cases h2:j∈l <;> simp [h1,h2]
theorem anyC_perm {n fuel:Nat} {idx:List Nat} {L:Array Bool} (hn:idx.Nodup) (_hni:n ∉ idx) (hok:okSub md ops idx L=true):∀ (k:Nat) (l:List Nat) (a:Act) (w:World),(∀ i∈l,i∈idx)→(idx.filter (fun i => !l.contains i)).length=k→S w →
  wpPerm P ops S Q (fun a w=>S w→wpAnyC P md ops n Q S fuel (mark idx L) a w) k (idx.filter (fun i => !l.contains i)) a w→wpAnyC P md ops n Q S (k+fuel) (mark l L) a w:=by
 have hr:∀ l:List Nat,(∀ i∈l,i∈idx)→idx.filter (fun i => !l.contains i)≠[]→Region.ready md ops (mark l L)=idx.filter (fun i => !l.contains i):=fun l hl hne=>by
  have h1:=List.all_eq_true.1 hok _ (mem_subsets (l:=l) (idx:=idx))
  have e0:idx.filter (fun i => !(idx.filter fun i=>l.contains i).contains i)=idx.filter (fun i => !l.contains i):=by
   apply List.filter_congr
   intro j hj
   simp only [List.contains_eq_mem,List.mem_filter,decide_eq_true_eq,Bool.decide_and]
   by_cases h2:j∈l <;> simp [h2,hj]
  rw [e0] at h1
  rw [Bool.or_eq_true,List.isEmpty_iff] at h1
  have h1:=eq_of_beq (h1.resolve_left hne)
  have e:mark (idx.filter fun i=>l.contains i) L=mark l L:=mark_same (fun i=>by
   simp only [List.mem_filter,List.contains_eq_mem,decide_eq_true_eq]
   exact ⟨fun h=>h.2,fun h=>⟨hl i h,h⟩⟩) L
  rw [e] at h1
  exact h1
 intro k
 induction k with
 | zero=>
  intro l a w hl hk hS h
  have hall:∀ i,i∈l↔i∈idx:=fun i=>⟨hl i,fun hi=>by
   have h0:=List.eq_nil_of_length_eq_zero hk
   rw [List.filter_eq_nil_iff] at h0
   have:=h0 i hi
   simpa using this⟩
  rw [Nat.zero_add,mark_same hall L]
  exact h hS
 | succ k ih=>
  intro l a w hl hk hS h
  rw [show k+1+fuel=(k+fuel)+1 by omega]
  have hne:idx.filter (fun i => !l.contains i)≠[]:=fun e=>by rw [e] at hk; simp at hk
  refine ⟨fun h0=>?_,fun i hi=>?_⟩
  ·rw [hr l hl hne] at h0
   exact absurd h0 hne
  ·rw [hr l hl hne] at hi
   have hii:=(List.mem_filter.1 hi).1
   refine wpOp_mono (fun a' w' h'=>⟨.inr h'.1,?_⟩) (h i hi)
   have hl':∀ j∈l++[i],j∈idx:=fun j hj=>by
    rcases List.mem_append.1 hj with hj | hj
    ·exact hl j hj
    ·obtain rfl:j=i:=by simpa using hj
     exact hii
   rw [← mark_snoc]
   have hfe:=filter_erase (l:=l) (i:=i) hn
   refine ih (l++[i]) a' w' hl' ?_ h'.1 ?_
   ·rw [← hfe,List.length_erase_of_mem hi,hk]; rfl
   ·rw [← hfe]; exact h'.2
structure MkS where
 t:Tmp
 len:Nat
 o:Obj
def MakesI (P:Program) (ops:Array Oper) (m:Nat→MkS) (i:Nat) (a:Act):Prop:=
 ∃ o,ops[i]? = some o∧o.dst=some (m i).t∧Region.wanted o (yielded ops a.tmps)=true∧∀ w,(execOp a.eval o).run P w = .ok (.value (.slice (some ⟨w.heap.size,0,none⟩) (m i).len (m i).len)) (w.alloc (m i).o)
def putAll (m:Nat→MkS) (f:Nat→Nat) (R:List Nat) (a:Act):Act:=R.foldl (fun a i=>a.put (some (m i).t) (.slice (some ⟨f i,0,none⟩) (m i).len (m i).len)) a
theorem put_comm {a:Act} {t u:Tmp} {x y:Value} (h:t≠u):(a.put (some t) x).put (some u) y=(a.put (some u) y).put (some t) x:=by
 simp only [Act.put]
 rw [Array.setIfInBounds_comm _ _ h]
theorem putAll_put {m:Nat→MkS} {f:Nat→Nat} {t:Tmp} {v:Value}:∀ (R:List Nat) (a:Act),(∀ i∈R,(m i).t≠t)→putAll m f R (a.put (some t) v)=(putAll m f R a).put (some t) v
 | [],_,_=>rfl
 | i::R,a,h=>by
  show putAll m f R ((a.put (some t) v).put _ _)=_
  rw [put_comm (fun e=>h i (by simp) e.symm)]
  exact putAll_put R _ fun j hj=>h j (List.mem_cons_of_mem _ hj)
theorem putAll_app (m:Nat→MkS) (f:Nat→Nat) (R R':List Nat) (a:Act):putAll m f (R++R') a=putAll m f R' (putAll m f R a):=by unfold putAll; rw [List.foldl_append]
theorem putAll_congr {m:Nat→MkS} {f f':Nat→Nat}:∀ (R:List Nat) (a:Act),(∀ i∈R,f i=f' i)→putAll m f R a=putAll m f' R a
 | [],_,_=>rfl
 | i::R,a,h=>by
  show putAll m f R (a.put _ (.slice (some ⟨f i,0,none⟩) _ _))=putAll m f' R (a.put _ (.slice (some ⟨f' i,0,none⟩) _ _))
  rw [h i (by simp)]
  exact putAll_congr R _ fun j hj=>h j (List.mem_cons_of_mem _ hj)
theorem putAll_erase {m:Nat→MkS} {f:Nat→Nat} {R:List Nat} {i:Nat} {b:Nat} {a:Act} (hn:R.Nodup) (hi:i∈R) (hd:∀ i∈R,∀ j∈R,i≠j→(m i).t≠(m j).t) :
  putAll m f (R.erase i) (a.put (some (m i).t) (.slice (some ⟨b,0,none⟩) (m i).len (m i).len))=putAll m (fun j=>if j=i then b else f j) R a:=by
 obtain ⟨R1,R2,rfl⟩:=List.append_of_mem hi
 have hni:i ∉ R1:=fun h=>by
  have:=(List.nodup_append.1 hn).2.2 i h i (by simp)
  exact this rfl
 have hni2:i ∉ R2:=(List.nodup_cons.1 (List.nodup_append.1 hn).2.1).1
 rw [List.erase_append_right _ hni,List.erase_cons_head]
 have e1:putAll m f (R1++R2) (a.put (some (m i).t) (.slice (some ⟨b,0,none⟩) (m i).len (m i).len))=(putAll m f (R1++R2) a).put (some (m i).t) (.slice (some ⟨b,0,none⟩) (m i).len (m i).len):=
  putAll_put _ _ fun j hj=>by
   have hj':j∈R1++i::R2:=by
    rcases List.mem_append.1 hj with h | h
    ·exact List.mem_append_left _ h
    ·exact List.mem_append_right _ (List.mem_cons_of_mem _ h)
   refine hd j hj' i hi (fun e=>?_)
   subst e
   rcases List.mem_append.1 hj with h | h
   ·exact hni h
   ·exact hni2 h
 rw [e1,putAll_app,putAll_app]
 show _=putAll m _ R2 ((putAll m _ R1 a).put (some (m i).t) (.slice (some ⟨if i=i then b else f i,0,none⟩) (m i).len (m i).len))
 rw [if_pos rfl]
 rw [putAll_put R2 _ fun j hj=>hd j (List.mem_append_right _ (List.mem_cons_of_mem _ hj)) i hi (fun e=>hni2 (by rw [← e]; exact hj))]
 congr 1
 rw [putAll_congr (f:=f) (f':=fun j=>if j=i then b else f j) R1 _ fun j hj=>by rw [if_neg (fun e=>hni (by rw [← e]; exact hj))]]
 exact putAll_congr R2 _ fun j hj=>by rw [if_neg (fun e=>hni2 (by rw [← e]; exact hj))]
theorem perm_makers {m:Nat→MkS} {T:Act→World→Prop} (hS:∀ w o,S w→S (w.alloc o)):∀ (k:Nat) (R:List Nat) (a:Act) (w:World),R.length=k→R.Nodup→(∀ i∈R,∀ j∈R,i≠j→(m i).t≠(m j).t∧∃ oi oj,ops[i]? = some oi∧ops[j]? = some oj∧oi.apart ops oj=true∧∀ cs b,oi.op≠.select cs b) →
  (∀ i∈R,MakesI P ops m i a)→S w →
  (∀ (f:Nat→Nat) (w':World),Below w.heap.size w w'→(∀ i∈R,w.heap.size≤f i∧w'.heap[f i]? = some (m i).o)→(∀ i∈R,∀ j∈R,i≠j→f i≠f j)→S w'→T (putAll m f R a) w')→wpPerm P ops S Q T k R a w:=by
 intro k
 induction k with
 | zero=>
  intro R a w hk _ _ _ hw h
  obtain rfl:=List.eq_nil_of_length_eq_zero hk
  exact h id w (Below.refl _ _) (fun i hi=>by cases hi) (fun i hi=>by cases hi) hw
 | succ k ih=>
  intro R a w hk hn hd hm hw h i hi
  obtain ⟨o,ho,hdst,hwant,hrun⟩:=hm i hi
  have hsub:∀ j∈R.erase i,j∈R∧j≠i:=fun j hj=>(hn.mem_erase_iff.1 hj).symm
  show Go.wpOp P ops Q i _ a w
  unfold Go.wpOp
  simp only [ho,hwant,if_true]
  refine .inl ?_
  unfold Oper.wp
  rw [hrun w,Oper.upon_value,hdst]
  refine ⟨hS _ _ hw,ih (R.erase i) _ (w.alloc (m i).o) (by rw [List.length_erase_of_mem hi,hk]; rfl) (hn.erase i) (fun x hx y hy hxy=>hd x (hsub x hx).1 y (hsub y hy).1 hxy) (fun j hj=>?_) (hS _ _ hw) (fun f w' hb hf hff hSw=>?_)⟩
  ·obtain ⟨hj1,hj2⟩:=hsub j hj
   obtain ⟨oj,hoj,hdj,hwj,hrj⟩:=hm j hj1
   obtain ⟨_,oj',oi',hoj',hoi',hap,hs⟩:=hd j hj1 i hi hj2
   obtain rfl:oj'=oj:=by rw [hoj] at hoj'; injection hoj' with e; exact e.symm
   obtain rfl:oi'=o:=by rw [ho] at hoi'; injection hoi' with e; exact e.symm
   have h3:=(Oper.apart_spec hap).2.2
   refine ⟨oj',hoj,hdj,?_,?_⟩
   ·rw [← hdst,wanted_put oj' a oi'.dst _ h3]; exact hwj
   ·intro w2
    rw [← hdst,execOp_put oj' hs a oi'.dst _ h3]; exact hrj w2
  ·have hsz:(w.alloc (m i).o).heap.size=w.heap.size+1:=by simp
   rw [putAll_erase hn hi (fun x hx y hy hxy=>(hd x hx y hy hxy).1)]
   refine h _ w' (((Below.refl _ _).alloc (Nat.le_refl _) _).trans (hb.mono (by omega))) (fun j hj=>?_) (fun x hx y hy hxy=>?_) hSw
   ·by_cases e:j=i
    ·subst e
     simp only [if_true]
     exact ⟨Nat.le_refl _,(hb.block _ (by omega)).trans (heap_alloc_new w _)⟩
    ·simp only [if_neg e]
     have h1:=hf j (hn.mem_erase_iff.2 ⟨e,hj⟩)
     exact ⟨by omega,h1.2⟩
   ·by_cases ex:x=i
    ·subst ex
     have hy':y∈R.erase x:=hn.mem_erase_iff.2 ⟨fun e=>hxy e.symm,hy⟩
     have:=(hf y hy').1
     simp only [if_true,if_neg (fun e:y=x=>hxy e.symm)]
     omega
    ·by_cases ey:y=i
     ·subst ey
      have hx':x∈R.erase y:=hn.mem_erase_iff.2 ⟨hxy,hx⟩
      have:=(hf x hx').1
      simp only [if_true,if_neg hxy]
      omega
     ·simp only [if_neg ex,if_neg ey]
      exact hff x (hn.mem_erase_iff.2 ⟨ex,hx⟩) y (hn.mem_erase_iff.2 ⟨ey,hy⟩) hxy
def wpFs (P:Program) (ops:Array Oper) (S:World→Prop) (T:Act→World→Prop):List Nat→Act→World→Prop
 | [],a,w=>T a w
 | i::r,a,w=>∃ oi v,ops[i]? = some oi∧YieldsC P ops S oi v a∧wpFs P ops S T r (a.put oi.dst v) w
def okFs (md:Region.Mode) (ops:Array Oper) (n:Nat):List Nat→Array Bool→Bool
 | [],_=>true
 | i::r,l=>waits md ops n i&&Region.free md ops l i&&(Region.ready md ops l).contains i&&okFs md ops n r (l.setIfInBounds i true)
theorem anyC_fs {n fuel:Nat} (hsel:Region.noSelect ops=true) (hQ:∀ c (a:Act) d v w,Q (.panic c) (a.put d v) w→Q (.panic c) a w):∀ (fs:List Nat) (listed:Array Bool) (a:Act) (w:World),okFs md ops n fs listed=true→S w →
  wpFs P ops S (fun a w=>wpAnyC P md ops n Q S fuel (mark fs listed) a w) fs a w→wpAnyC P md ops n Q S (fs.length+fuel) listed a w
 | [],listed,a,w,_,_,h=>by
  have h:wpAnyC P md ops n Q S fuel (mark [] listed) a w:=h
  simpa [mark] using h
 | i::r,listed,a,w,hok,hS,h=>by
  simp only [okFs,Bool.and_eq_true] at hok
  obtain ⟨oi,v,ho,hy,h⟩:=h
  rw [show (i::r).length+fuel=(r.length+fuel)+1 by simp; omega]
  exact wpAnyC_first ho hok.1.1.1 (Region.noSelect_spec hsel) (fun c a w=>hQ c a _ _ w) _ _ _ _ (Region.free_spec ho hok.1.1.2) (by simpa using hok.1.2) hy hS (anyC_fs hsel hQ r _ _ _ hok.2 hS h)
theorem fs_take {i:Nat} {r:List Nat} {T:Act→World→Prop} {a:Act} {w:World} (oi:Oper) (v:Value) (ho:ops[i]? = some oi) (hw:Region.wanted oi (yielded ops a.tmps)=true)
  (hy:∀ w,S w→(execOp a.eval oi).run P w = .ok (.value v) w) (h:wpFs P ops S T r (a.put oi.dst v) w):wpFs P ops S T (i::r) a w:=⟨oi,v,ho,.inl (.inl ⟨hw,hy⟩),h⟩
theorem fs_nil {T:Act→World→Prop} {a:Act} {w:World} (h:T a w):wpFs P ops S T [] a w:=h
def okApart (ops:Array Oper) (idx:List Nat) (t:Nat→Tmp):Bool:=idx.all fun i=>idx.all fun j=>i == j||(t i != t j&&(match ops[i]?,ops[j]? with
 | some oi,some oj=>oi.apart ops oj
 | _,_=>false))
theorem wp_region_makers {id:Nat} {a:Act} {w:World} (n:Nat) (fs idx:List Nat) (post:List Mv) (m:Nat→MkS) (hm:P.follows .mixedOrders=true) (hsel:Region.noSelect ops=true)
  (hok:(okFs .any ops n fs (Array.replicate ops.size false)&&okSub .any ops idx (mark fs (Array.replicate ops.size false))&&okMv .any ops n post (mark idx (mark fs (Array.replicate ops.size false)))&&fs.length+(idx.length+costs post) == ops.size)=true)
  (hnd:idx.Nodup) (hni:n ∉ idx) (hap:okApart ops idx (fun i=>(m i).t)=true) (hS:S w.drew) (hSa:∀ w o,S w→S (w.alloc o))
  (h:wpFs P ops S (fun a w'=>w'=w.drew→(∀ i∈idx,MakesI P ops m i a)∧∀ (f:Nat→Nat) (w2:World),Below w.heap.size w.drew w2→(∀ i∈idx,w.heap.size≤f i∧w2.heap[f i]? = some (m i).o)→(∀ i∈idx,∀ j∈idx,i≠j→f i≠f j)→S w2→wpMv P ops n S (NoPanic Q) post (putAll m f idx a) w2) fs a w.drew):(Code.region id ops true).wp P Q a w:=by
 simp only [Bool.and_eq_true,beq_iff_eq] at hok
 obtain ⟨⟨⟨h1,h2⟩,h3⟩,h4⟩:=hok
 have key:∀ (fs':List Nat) (a':Act),wpFs P ops S (fun a w'=>w'=w.drew→(∀ i∈idx,MakesI P ops m i a)∧∀ (f:Nat→Nat) (w2:World),Below w.heap.size w.drew w2→(∀ i∈idx,w.heap.size≤f i∧w2.heap[f i]? = some (m i).o)→(∀ i∈idx,∀ j∈idx,i≠j→f i≠f j)→S w2→wpMv P ops n S (NoPanic Q) post (putAll m f idx a) w2) fs' a' w.drew →
   wpFs P ops S (fun a w'=>wpAnyC P .any ops n (NoPanic Q) S (idx.length+costs post) (mark fs (Array.replicate ops.size false)) a w') fs' a' w.drew:=by
  intro fs'
  induction fs' with
  | nil=>
   intro a' hx
   obtain ⟨hx1,hx2⟩:=hx rfl
   have hz:idx.filter (fun i => !([]:List Nat).contains i)=idx:=List.filter_eq_self.2 fun i _=>by simp
   have:=anyC_perm (S:=S) (Q:=NoPanic Q) (P:=P) (n:=n) (fuel:=costs post) hnd hni h2 idx.length [] a' w.drew (fun i hi=>by cases hi) (by rw [hz]) hS (by
    rw [hz]
    refine perm_makers hSa idx.length idx a' w.drew rfl hnd (fun i hi j hj hij=>?_) hx1 hS (fun f w2 hb hf hff hSw=>fun hSw2=>?_)
    ·have h5:=List.all_eq_true.1 (List.all_eq_true.1 hap i hi) j hj
     simp only [Bool.or_eq_true,beq_iff_eq,Bool.and_eq_true,bne_iff_ne] at h5
     obtain ⟨h6,h7⟩:=h5.resolve_left hij
     cases e1:ops[i]? with
     | none=>rw [e1] at h7; cases h7
     | some oi=>
      cases e2:ops[j]? with
      | none=>rw [e1,e2] at h7; cases h7
      | some oj=>
       rw [e1,e2] at h7
       exact ⟨h6,oi,oj,rfl,rfl,h7,fun cs b=>Region.noSelect_spec hsel i oi cs b e1⟩
    ·exact wpAnyC_mv hsel (fun _ _ _ _ _ h=>h) post _ _ _ h3 hSw2 (hx2 f w2 hb hf hff hSw2))
   exact this
  | cons i r ih=>
   intro a' hx
   obtain ⟨oi,v,ho,hy,hx⟩:=hx
   exact ⟨oi,v,ho,hy,ih _ hx⟩
 have:=anyC_fs (n:=n) (fuel:=idx.length+costs post) hsel (fun _ _ _ _ _ h=>h) fs (Array.replicate ops.size false) a w.drew h1 hS (key fs a h)
 rw [h4] at this
 exact wp_region_noPanic (wp_region_any hm (wpAnyC_any _ _ _ _ this))
end
end Go.Proofs.YthkhfbofhdfdoaaGreatDoor
