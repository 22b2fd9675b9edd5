/- Plain laws and walks for the law WordSums; no condition. -/
import Derived.Test.YthkhfbofhdfdoaaGreatDoorGm
import Derived.Test.YthkhfbofhdfdoaaGreatDoorGr
import Derived.Test.YthkhfbofhdfdoaaGreatDoorRj
import Derived.Test.YthkhfbofhdfdoaaGreatDoorBa
import Derived.Deep.LoopGhost
namespace Go.Proofs.YthkhfbofhdfdoaaGreatDoor
open Go.RowKit
theorem litNumAt {nl:List Bool} {i:Nat} (h:i<nl.length):(Cn.nums nl)[i]? = some (Cn.numAt nl i):=by
 unfold Cn.nums; rw [Cn.numTo_get h,if_pos h]
theorem numAt_le (nl:List Bool) (i:Nat):Cn.numAt nl i≤nl.length:=by
 unfold Cn.numAt; split
 ·unfold Cn.cnt; exact Nat.le_trans (List.length_filter_le _ _) (by rw [List.length_take]; omega)
 ·omega
set_option maxRecDepth 100000 in
theorem of_lit {w:World} {base gm cm:Nat} {nl:List Bool} (hm:w.ownsRow base 3 1 (.slice (some ⟨gm,0,none⟩) nl.length nl.length) nl.length (natVals (Cn.nums nl)))
  (hc:Blk w cm 40 #[.slice (some ⟨gm,0,none⟩) nl.length nl.length]) {a:Nat} (ha:a/2<nl.length) (hn:nl.length≤100000) :
  Calls Tryz.prog 25 #[.int .i64 a,.pointer (some ⟨cm,0,none⟩)] w fun e w'=>e = .returned (.int .i64 (Cn.litN nl a))∧w=w':=by
 obtain ⟨u,hu,c0⟩:=own_cell (k:=a/2) hm ha
 obtain rfl:Value.int .i64 (Cn.numAt nl (a/2):Nat)=u:=by
  rw [natVals_at (litNumAt ha)] at hu; injection hu
 have c1:=hc.cell 0
 obtain ⟨q,hq⟩:∃ q,a/2=q:=⟨_,rfl⟩
 rw [hq] at c0 ha
 have hv:=numAt_le nl q
 have he:Cn.litN nl a=if a%2=1 then -((Cn.numAt nl q:Nat):Int) else (Cn.numAt nl q:Nat):=by unfold Cn.litN; rw [hq]
 have HE:=Lib.hid he
 obtain ⟨z,hz⟩:∃ z,Cn.numAt nl q=z:=⟨_,rfl⟩
 rw [hz] at c0 hv
 have HZ:=Lib.hid hz
 have hd:(a:Int)/2=(q:Int):=by omega
 have hqI:(q:Int)<(nl.length:Int):=by omega
 have ha2:a≤200001:=by omega
 clear hm hc hu he hz
 rcases Nat.mod_two_eq_zero_or_one a with ho | ho
 ·have hoI:(a:Int)%2=0:=by omega
  go_enter Tryz.func25,Tryz.ntmps25
  go_wp2_with fail
  go_ret
  rw [HE.out,if_neg (by omega),HZ.out]
  exact ⟨rfl,rfl⟩
 ·have hoI:(a:Int)%2=1:=by omega
  go_enter Tryz.func25,Tryz.ntmps25
  go_wp2_with fail
  go_ret
  rw [HE.out,if_pos (by omega),HZ.out]
  exact ⟨rfl,rfl⟩
theorem of_lit_n {w:World} {base gm cm m:Nat} {nl:List Bool} (e:nl.length=m) (hm:w.ownsRow base 3 1 (.slice (some ⟨gm,0,none⟩) m m) m (natVals (Cn.nums nl)))
  (hc:Blk w cm 40 #[.slice (some ⟨gm,0,none⟩) m m]) {a:Nat} (ha:a/2<m) (hn:m≤100000) :
  Calls Tryz.prog 25 #[.int .i64 a,.pointer (some ⟨cm,0,none⟩)] w fun e w'=>e = .returned (.int .i64 (Cn.litN nl a))∧w=w':=by
 subst e; exact of_lit hm hc ha hn
theorem litN_le (nl:List Bool) (a:Nat) : -(nl.length:Int)≤Cn.litN nl a∧Cn.litN nl a≤(nl.length:Int):=by
 have:=numAt_le nl (a/2)
 unfold Cn.litN; split <;> omega
theorem gatesC_step {nl:List Bool} {gs:List Gm.Gate} {i:Nat} {g:Gm.Gate} (h:gs[i]? = some g):Cn.gatesC nl 0 (gs.take (i+1))=Cn.gatesC nl 0 (gs.take i)++Cn.gateC nl i g:=by
 have hl:=(List.getElem?_eq_some_iff.1 h).1
 rw [Gm.take_one h,Cn.gatesC_snoc,List.length_take,Nat.min_eq_left (by omega),Nat.zero_add]
theorem gatesC_le (nl:List Bool):∀ (l:List Gm.Gate) (n:Nat),(Cn.gatesC nl n l).length≤3*l.length
 | [],n=>by simp [Cn.gatesC]
 | g::l,n=>by
  have h1:=gatesC_le nl l (n+1)
  have h2:(Cn.gateC nl n g).length≤3:=by unfold Cn.gateC; split <;> simp
  simp only [Cn.gatesC,List.length_append,List.length_cons]; omega
section
variable {P:Program} {ops:Array Oper} {S:World→Prop} {Q:Exit→Act→World→Prop}
theorem mv_rows3 {n i j k:Nat} {r:List Mv} {a:Act} {w:World} (oi oj ok:Oper) (hi:ops[i]? = some oi) (hj:ops[j]? = some oj) (hk:ops[k]? = some ok) (hsel:Region.noSelect ops=true)
  (aij:oi.apart ops oj=true) (aik:oi.apart ops ok=true) (aji:oj.apart ops oi=true) (ajk:oj.apart ops ok=true) (aki:ok.apart ops oi=true) (akj:ok.apart ops oj=true)
  (e:TypeId) (x1 x2 x3:List Value) (m1:Makes P ops e oi x1 a) (m2:Makes P ops e oj x2 a) (m3:Makes P ops e ok x3 a) (l1:x1.length≤1000000) (l2:x2.length≤1000000) (l3:x3.length≤1000000)
  (hS:S w) (hSa:∀ w o,S w→S (w.alloc o))
  (h:∀ n1 n2 n3 w',w'.ownsRow w.heap.size e 1 (.slice (some ⟨n1,0,none⟩) x1.length x1.length) x1.length x1→w'.ownsRow w.heap.size e 1 (.slice (some ⟨n2,0,none⟩) x2.length x2.length) x2.length x2 →
   w'.ownsRow w.heap.size e 1 (.slice (some ⟨n3,0,none⟩) x3.length x3.length) x3.length x3→Below w.heap.size w w'→S w' →
   wpMv P ops n S Q r (((a.put oi.dst (.slice (some ⟨n1,0,none⟩) x1.length x1.length)).put oj.dst (.slice (some ⟨n2,0,none⟩) x2.length x2.length)).put ok.dst (.slice (some ⟨n3,0,none⟩) x3.length x3.length)) w') :
  wpMv P ops n S Q (.all i j k::r) a w:=by
 have hs:=Region.noSelect_spec hsel
 have si:∀ cs b,oi.op≠.select cs b:=fun cs b=>hs i oi cs b hi
 have sj:∀ cs b,oj.op≠.select cs b:=fun cs b=>hs j oj cs b hj
 have sk:∀ cs b,ok.op≠.select cs b:=fun cs b=>hs k ok cs b hk
 have cij:∀ (a:Act) u v,(a.put oi.dst u).put oj.dst v=(a.put oj.dst v).put oi.dst u:=fun a u v=>Act.put_comm a u v (Oper.apart_spec aij).2.1
 have cik:∀ (a:Act) u v,(a.put oi.dst u).put ok.dst v=(a.put ok.dst v).put oi.dst u:=fun a u v=>Act.put_comm a u v (Oper.apart_spec aik).2.1
 have cjk:∀ (a:Act) u v,(a.put oj.dst u).put ok.dst v=(a.put ok.dst v).put oj.dst u:=fun a u v=>Act.put_comm a u v (Oper.apart_spec ajk).2.1
 have s0:w.heap.size≤w.heap.size:=Nat.le_refl _
 have s1:∀ o,w.heap.size≤(w.alloc o).heap.size:=fun o=>by simp
 have s2:∀ o o',w.heap.size≤((w.alloc o).alloc o').heap.size:=fun o o'=>by simp; omega
 have hb:∀ o o' o'',Below w.heap.size w (((w.alloc o).alloc o').alloc o''):=fun o o' o''=>(((Below.refl _ _).alloc s0 _).alloc (s1 _) _).alloc (s2 _ _) _
 refine ⟨m1.step hi (hSa _ _ hS) ⟨?_,?_⟩,m2.step hj (hSa _ _ hS) ⟨?_,?_⟩,m3.step hk (hSa _ _ hS) ⟨?_,?_⟩⟩
 ·refine (m2.same aji sj _).step hj (hSa _ _ (hSa _ _ hS)) (((m3.same aki sk _).same akj sk _).step hk (hSa _ _ (hSa _ _ (hSa _ _ hS))) ?_)
  exact h _ _ _ _ (((own_full s0 rfl l1).alloc _).alloc _) ((own_full (s1 _) rfl l2).alloc _) (own_full (s2 _ _) rfl l3) (hb _ _ _) (hSa _ _ (hSa _ _ (hSa _ _ hS)))
 ·refine (m3.same aki sk _).step hk (hSa _ _ (hSa _ _ hS)) (((m2.same aji sj _).same ajk sj _).step hj (hSa _ _ (hSa _ _ (hSa _ _ hS))) ?_)
  rw [← cjk (a.put oi.dst _)]
  exact h _ _ _ _ (((own_full s0 rfl l1).alloc _).alloc _) (own_full (s2 _ _) rfl l2) ((own_full (s1 _) rfl l3).alloc _) (hb _ _ _) (hSa _ _ (hSa _ _ (hSa _ _ hS)))
 ·refine (m1.same aij si _).step hi (hSa _ _ (hSa _ _ hS)) (((m3.same akj sk _).same aki sk _).step hk (hSa _ _ (hSa _ _ (hSa _ _ hS))) ?_)
  rw [← cij a]
  exact h _ _ _ _ ((own_full (s1 _) rfl l1).alloc _) (((own_full s0 rfl l2).alloc _).alloc _) (own_full (s2 _ _) rfl l3) (hb _ _ _) (hSa _ _ (hSa _ _ (hSa _ _ hS)))
 ·refine (m3.same akj sk _).step hk (hSa _ _ (hSa _ _ hS)) (((m1.same aij si _).same aik si _).step hi (hSa _ _ (hSa _ _ (hSa _ _ hS))) ?_)
  rw [← cik (a.put oj.dst _),← cij a]
  exact h _ _ _ _ (own_full (s2 _ _) rfl l1) (((own_full s0 rfl l2).alloc _).alloc _) ((own_full (s1 _) rfl l3).alloc _) (hb _ _ _) (hSa _ _ (hSa _ _ (hSa _ _ hS)))
 ·refine (m1.same aik si _).step hi (hSa _ _ (hSa _ _ hS)) (((m2.same ajk sj _).same aji sj _).step hj (hSa _ _ (hSa _ _ (hSa _ _ hS))) ?_)
  rw [← cik a,← cjk (a.put oi.dst _)]
  exact h _ _ _ _ ((own_full (s1 _) rfl l1).alloc _) (own_full (s2 _ _) rfl l2) (((own_full s0 rfl l3).alloc _).alloc _) (hb _ _ _) (hSa _ _ (hSa _ _ (hSa _ _ hS)))
 ·refine (m2.same ajk sj _).step hj (hSa _ _ (hSa _ _ hS)) (((m1.same aik si _).same aij si _).step hi (hSa _ _ (hSa _ _ (hSa _ _ hS))) ?_)
  rw [← cij (a.put ok.dst _),← cik a,← cjk (a.put oi.dst _)]
  exact h _ _ _ _ (own_full (s2 _ _) rfl l1) ((own_full (s1 _) rfl l2).alloc _) (((own_full s0 rfl l3).alloc _).alloc _) (hb _ _ _) (hSa _ _ (hSa _ _ (hSa _ _ hS)))
end
end Go.Proofs.YthkhfbofhdfdoaaGreatDoor
namespace Go.Proofs.YthkhfbofhdfdoaaGreatDoor
open Go.RowKit
theorem gates_ga {w:World} {B b:Nat} {gs:List Gm.Gate} (h:GA w B b gs) :
  Calls Tryz.prog 23 #[.pointer (some ⟨b,0,none⟩)] w fun e w'=>e = .returned (.int .i64 (1+(gs.length:Int)))∧w=w':=by
 obtain ⟨mb,h⟩:=h
 obtain ⟨sv,hblk,hrow⟩:=h.ex
 obtain ⟨A,c,rfl⟩:=own_form hrow
 exact gates_at h.len hblk
def intOwn (w:World) (base:Nat) (v:Value) (n:Nat) (l:List Nat):Prop:=w.ownsRow base 3 1 v n (natVals l)
theorem co_push {W wz w6:World} {bf gm m q:Nat} {v v':Value} {cs new:List (List Int)} {rows news:List Value} {xs:List Nat} {o:Obj}
  (hb:Below W.heap.size W wz) (hbx:Blk wz W.heap.size 39 #[.int .i64 0,.slice none 0 0]) (hbf:Blk wz bf 39 #[.int .i64 (q:Nat),v]) (hlt:W.heap.size<bf)
  (hom:intOwn wz W.heap.size (.slice (some ⟨gm,0,none⟩) m m) m xs) (hbm:Blk wz (gm+1) 40 #[.slice (some ⟨gm,0,none⟩) m m])
  (hrow:wz.ownsRow W.heap.size 72 1 v cs.length rows) (hcl:∀ (i:Nat) (l:List Int),cs[i]? = some l→∃ u,rows[i]? = some u∧wz.ownsRow W.heap.size 3 1 u l.length (litVals l))
  (hnew:∀ (i:Nat) (l:List Int),new[i]? = some l→∃ u,news[i]? = some u∧wz.ownsRow W.heap.size 3 1 u l.length (litVals l))
  (hg:(wz.alloc o).grownBy w6 v.ownBlock) (hown:w6.ownsRow W.heap.size 72 1 v' (cs.length+new.length) (rows++news)) :
  Below W.heap.size W (w6.setCell ⟨bf,1,none⟩ v')∧Blk (w6.setCell ⟨bf,1,none⟩ v') W.heap.size 39 #[.int .i64 0,.slice none 0 0]∧Blk (w6.setCell ⟨bf,1,none⟩ v') bf 39 #[.int .i64 (q:Nat),v'] ∧
  intOwn (w6.setCell ⟨bf,1,none⟩ v') W.heap.size (.slice (some ⟨gm,0,none⟩) m m) m xs∧Blk (w6.setCell ⟨bf,1,none⟩ v') (gm+1) 40 #[.slice (some ⟨gm,0,none⟩) m m]∧CsAt (w6.setCell ⟨bf,1,none⟩ v') W.heap.size v' (cs++new) ∧
  ∀ u n ys,wz.ownsRow W.heap.size 4 1 u n ys→(w6.setCell ⟨bf,1,none⟩ v').ownsRow W.heap.size 4 1 u n ys:=by
 have hb6:=own_grown_below hb hrow (Nat.le_refl _) hg
 have hbx6:=(hbx.alloc o).grown hg (own_blk_ne hrow hbx (by decide)).symm
 have hbf6:=(hbf.alloc o).grown hg (own_blk_ne hrow hbf (by decide)).symm
 have hbm6:=(hbm.alloc o).grown hg (own_blk_ne hrow hbm (by decide)).symm
 have hom6:intOwn w6 W.heap.size (.slice (some ⟨gm,0,none⟩) m m) m xs:=own_kept1 hom hrow (by decide) hg
 refine ⟨hb6.setCell (by show W.heap.size≤bf; omega) _,hbx6.far (p:=⟨bf,1,none⟩) (by show W.heap.size≠bf; omega) _,hbf6.set_ 1 v',own_far hom6 _ (own_blk_ne hom6 hbf6 (by decide)),hbm6.far (p:=⟨bf,1,none⟩) (Blk.ne_ hbm6 hbf6 (by decide)) _,
  (CsAt.more hrow hcl hnew hg hown).far hbf6 (by decide) (by decide) 1 v',fun u n ys hu=>?_⟩
 have hu6:=own_kept1 hu hrow (by decide) hg
 exact own_far hu6 _ (own_blk_ne hu6 hbf6 (by decide))
theorem infoInt_:(Tryz.prog.info? 3).map (fun i=>(i.zero,i.size,i.bytes))=some (some (.int .i64 0),1,8):=by kernel_rfl
def CoR1 (W:World) (gs:List Gm.Gate) (rs:List Nat) (gn cn:Nat) (tv iv:Value) (wr:World):Prop:=
 ∃ k:Nat,k≤rs.length∧iv = .int .i64 k∧(∃ A c,tv = .slice A k c)∧Below W.heap.size W wr∧Blk wr W.heap.size 39 #[.int .i64 0,.slice none 0 0] ∧
  wr.ownsRow W.heap.size 4 1 (.slice (some ⟨gn,0,none⟩) (gs.length+1) cn) (gs.length+1) (boolVals (List.replicate (gs.length+1) false))∧intOwn wr W.heap.size tv k ((rs.take k).map (· / 2))
def CoR2 (W:World) (gs:List Gm.Gate) (rs:List Nat) (gn cn:Nat) (gk:Nat) (tv:Value) (wr:World):Prop:=
 ∃ nl tl L,gk=3*Cn.left nl+L∧tl.length=L∧Cn.Dfs gs rs nl tl∧gk≤3*(gs.length+1)+rs.length∧(∃ A c,tv = .slice A L c)∧Below W.heap.size W wr∧Blk wr W.heap.size 39 #[.int .i64 0,.slice none 0 0] ∧
  wr.ownsRow W.heap.size 4 1 (.slice (some ⟨gn,0,none⟩) (gs.length+1) cn) (gs.length+1) (boolVals nl)∧intOwn wr W.heap.size tv L tl
theorem own_cap {w:World} {base e n c:Nat} {A:Option Addr} {xs:List Value} (h:w.ownsRow base e 1 (.slice A n c) n xs) (hn:0<n):n≤c:=by
 rcases h.2 with ⟨_,h0⟩ | ⟨g',cap,cur,hv,_,_,hnc,_⟩
 ·omega
 ·simp only [Value.slice.injEq] at hv
  rw [hv.2.2]; exact hnc
theorem boolVals_set (l:List Bool) (i:Nat) (b:Bool):boolVals (l.set i b)=(boolVals l).set i (.bool b):=by unfold boolVals; rw [List.map_set]
theorem bool_cell {w:World} {base n c g k:Nat} {bs:List Bool} {bb:Bool} (h:w.ownsRow base 4 1 (.slice (some ⟨g,0,none⟩) n c) n (boolVals bs)) (hk:bs[k]? = some bb):w.cell? ⟨g,k,none⟩=some (.bool bb):=by
 have hl:=(List.getElem?_eq_some_iff.1 hk).1
 have hn:bs.length=n:=by have:=h.1; unfold boolVals at this; simp at this; omega
 obtain ⟨u,hu,hc⟩:=own_cell (k:=k) h (by omega)
 unfold boolVals at hu
 rw [List.getElem?_map,hk] at hu
 rw [hc]; rw [← hu]; rfl
theorem snoc_of {l:List Nat} {M:Nat} (h:l.length=M+1):∃ l' n,l=l'++[n]∧l'.length=M:=by
 rcases List.eq_nil_or_concat l with rfl | ⟨l',n,rfl⟩
 ·simp at h
 ·exact ⟨l',n,by simp,by simpa using h⟩
set_option maxRecDepth 100000 in
theorem run_make_ints1 (n:Nat) (hn:n≤1000000) (w:World):(Instr.makeSlice 40 (.int .i64 (1+(n:Int))) (.int .i64 (1+(n:Int)))).run Tryz.prog w =
  .ok (.slice (some ⟨w.heap.size,0,none⟩) (n+1) (n+1)) (w.alloc (.cells (natVals (List.replicate (n+1) 0)).toArray 3)):=by
 obtain ⟨i0,hi,hz0,hz1,hz2⟩:=info_parts infoInt_
 have h:=run_make_rowN (P:=Tryz.prog) 40 3 i0 (.int .i64 0) Tryz.underlying40 hi hz0 .i64 .i64 (n+1) (n+1) (Nat.le_refl _) (by rw [hz2]; omega) (by omega) w
 have e0:((n+1:Nat):Int)=1+(n:Int):=by omega
 rw [e0] at h
 rw [h]
 congr 3
 rw [hz1,Nat.mul_one]
 have e:=toList_madeCells_one (.int .i64 0) (n+1)
 have e2:natVals (List.replicate (n+1) 0)=List.replicate (n+1) (Value.int .i64 0):=by unfold natVals litVals; simp
 rw [e2,← e]; rfl
def CoR3 (W:World) (gs:List Gm.Gate) (nl:List Bool) (gn bf gm:Nat) (iv:Value) (wr:World):Prop:=
 ∃ k q:Nat,k≤gs.length+1∧q=Cn.cnt nl k∧iv = .int .i64 k∧Below W.heap.size W wr∧Blk wr W.heap.size 39 #[.int .i64 0,.slice none 0 0] ∧
  wr.ownsRow W.heap.size 4 1 (.slice (some ⟨gn,0,none⟩) (gs.length+1) (gs.length+1)) (gs.length+1) (boolVals nl)∧Blk wr bf 39 #[.int .i64 (q:Int),.slice none 0 0] ∧
  intOwn wr W.heap.size (.slice (some ⟨gm,0,none⟩) (gs.length+1) (gs.length+1)) (gs.length+1) (Cn.numTo nl k)∧Blk wr (gm+1) 40 #[.slice (some ⟨gm,0,none⟩) (gs.length+1) (gs.length+1)]
def CoR4 (W:World) (gs:List Gm.Gate) (nl:List Bool) (gn bf gm:Nat) (iv:Value) (wr:World):Prop:=
 ∃ (k:Nat) (v:Value),k≤gs.length+1∧iv = .int .i64 k∧Below W.heap.size W wr∧Blk wr W.heap.size 39 #[.int .i64 0,.slice none 0 0] ∧
  wr.ownsRow W.heap.size 4 1 (.slice (some ⟨gn,0,none⟩) (gs.length+1) (gs.length+1)) (gs.length+1) (boolVals nl)∧Blk wr bf 39 #[.int .i64 (Cn.cnt nl (gs.length+1):Nat),v] ∧
  intOwn wr W.heap.size (.slice (some ⟨gm,0,none⟩) (gs.length+1) (gs.length+1)) (gs.length+1) (Cn.nums nl)∧Blk wr (gm+1) 40 #[.slice (some ⟨gm,0,none⟩) (gs.length+1) (gs.length+1)] ∧
  CsAt wr W.heap.size v (Cn.gatesC nl 0 (gs.take (k-1)))
def CoR5 (W:World) (gs:List Gm.Gate) (nl:List Bool) (rs:List Nat) (bf gm:Nat) (iv:Value) (wr:World):Prop:=
 ∃ (k:Nat) (v:Value),k≤rs.length∧iv = .int .i64 k∧Below W.heap.size W wr∧Blk wr W.heap.size 39 #[.int .i64 0,.slice none 0 0]∧Blk wr bf 39 #[.int .i64 (Cn.cnt nl (gs.length+1):Nat),v] ∧
  intOwn wr W.heap.size (.slice (some ⟨gm,0,none⟩) (gs.length+1) (gs.length+1)) (gs.length+1) (Cn.nums nl)∧Blk wr (gm+1) 40 #[.slice (some ⟨gm,0,none⟩) (gs.length+1) (gs.length+1)] ∧
  CsAt wr W.heap.size v (Cn.gatesC nl 0 gs++Cn.rootsC nl (rs.take k))
def CoP (W:World) (gs:List Gm.Gate) (rs:List Nat) (e:Ending) (w':World):Prop:=
 ∃ (nl:List Bool) (Ac An:Option Addr) (cc cn:Nat),(∀ n,nl[n]? = some true↔(1≤n∧Cn.Reach gs rs n))∧nl.length=gs.length+1 ∧
  e = .returned (.tuple #[.agg #[.int .i64 (Cn.cnt nl (gs.length+1):Nat),.slice Ac (Cn.clausesC gs nl rs).length cc],.slice An (gs.length+1) cn,.nilIface])∧Below W.heap.size W w' ∧
  CsAt w' W.heap.size (.slice Ac (Cn.clausesC gs nl rs).length cc) (Cn.clausesC gs nl rs)∧intOwn w' W.heap.size (.slice An (gs.length+1) cn) (gs.length+1) (Cn.nums nl)
theorem rootsC_step {nl:List Bool} {rs:List Nat} {k x:Nat} (h:rs[k]? = some x):Cn.rootsC nl (rs.take (k+1))=Cn.rootsC nl (rs.take k)++Cn.rootC nl x:=by
 rw [Gm.take_one h]; unfold Cn.rootsC; simp
theorem rootsC_le (nl:List Bool):∀ rs:List Nat,(Cn.rootsC nl rs).length≤rs.length
 | []=>by simp [Cn.rootsC]
 | r::rs=>by
  have h1:=rootsC_le nl rs
  have h2:(Cn.rootC nl r).length≤1:=by
   unfold Cn.rootC
   split
   ·simp
   ·split <;> simp
  unfold Cn.rootsC at h1 ⊢
  simp only [List.map_cons,List.flatten_cons,List.length_append,List.length_cons]; omega
set_option maxRecDepth 100000 in
set_option maxHeartbeats 8000000 in
theorem cof_any {w:World} {B b:Nat} {gs:List Gm.Gate} (h:GA w B b gs) {A:Option Addr} {c BR:Nat} {rs:List Nat} (hr:Reads w BR 1 A rs.length (natVals rs)) (hBR:BR≤w.heap.size) (hh:∀ r∈rs,Gm.has gs r) (hl:rs.length≤100) (hg:gs.length≤90000) :
  Calls Tryz.prog 8 #[.pointer (some ⟨b,0,none⟩),.slice A rs.length c] w (CoP w gs rs):=by
 obtain ⟨i0,hi0,hz0,hz1,hz2⟩:=info_parts infoInt_
 have HIN:=Lib.hid (show _∧_∧_∧_ from ⟨hi0,hz0,hz1,hz2⟩)
 obtain ⟨ib,hb0,hy0,hy1,hy2⟩:=info_parts infoBool_
 have HG:=Lib.hid h
 have HR:=Lib.hid hr
 have HBR:=Lib.hid hBR
 have HH:=Lib.hid hh
 obtain ⟨W1,hW1⟩:∃ W1,W1=w.alloc (.cells #[.int .i64 0,.slice none 0 0] 39):=⟨_,rfl⟩
 have b1:Blk W1 w.heap.size 39 #[.int .i64 0,.slice none 0 0]:=by rw [hW1]; exact Blk.new w _ _
 have hbw1:Below w.heap.size w W1:=by rw [hW1]; exact (Below.refl _ _).alloc (Nat.le_refl _) _
 have hmk:=run_make_bools1 gs.length (by omega) W1
 have HSW:=Lib.hid (show W1.heap.size=w.heap.size+1 by rw [hW1]; simp)
 have C1:=Lib.hid (gates_ga (h.new hbw1))
 have HW1:=Lib.hid hW1
 have HB1:=Lib.hid b1
 have HBW1:=Lib.hid hbw1
 clear h hr hBR hh hi0 hz0 hz1 hz2 hb0 hy0 hy1 hy2 hW1 b1 hbw1
 go_enter Tryz.func8,Tryz.ntmps8
 go_wp2_with fail
 rw [← HW1.out]
 refine C1.out.mono ?_
 rintro e w' ⟨rfl,rfl⟩
 go_wp2_with fail
 go_loopw [8,33] (fun tv iv wr=>CoR1 w gs rs W1.heap.size (gs.length+1) tv iv wr) (fun _ iv _=>rs.length-(intOf iv).toNat)
 case atStart=>
  refine ⟨0,Nat.zero_le _,rfl,⟨none,0,rfl⟩,HBW1.out.alloc HBW1.out.size _,HB1.out.alloc _,?_,World.ownsRow_nil _ _ _ _⟩
  exact own_full (xs:=boolVals (List.replicate (gs.length+1) false)) HBW1.out.size (by simp [boolVals]) (by omega)
 case round=>
  clear hmk
  obtain ⟨k,hk,rfl,⟨At,ct,rfl⟩,hb,hbx,hon,hot⟩:=hrel
  by_cases hkl:k<rs.length
  ·obtain ⟨x,hx⟩:∃ x,rs[k]? = some x:=⟨_,List.getElem?_eq_getElem hkl⟩
   obtain ⟨ad,hA,hadb,hcell⟩:=HR.out.2 (by omega)
   subst hA
   have cx:=(hb.cell (p:=ad.add k) (by rw [block_of_add]; have:=HBR.out; omega)).trans (hcell k _ (natVals_at hx))
   have hxh:=HH.out x (List.mem_of_getElem? hx)
   have CX:=Lib.hid (has_lit (HG.out.new hb) hxh (by omega))
   obtain ⟨y,hy⟩:∃ y:Nat,x/2=y:=⟨_,rfl⟩
   have hxy:(x:Int)/2=(y:Int):=by omega
   have hx0:x≤1000000:=by unfold Gm.has at hxh; omega
   have HX:=Lib.hid hx
   have HY:=Lib.hid hy
   have HB:=Lib.hid hb
   have HBX:=Lib.hid hbx
   have HON:=Lib.hid hon
   have HOT:=Lib.hid hot
   have hsz:=hb.size
   clear hx hcell hxh hy hb hbx hon hot
   go_wp2_with fail
   refine CX.out.mono ?_
   rintro e w' ⟨rfl,rfl⟩
   go_wp2_with (at_builtin; refine wpList_append_sl _ rfl (.tmp 43) (.tmp 46) _ rfl w.heap.size 3 i0 _ 1 8 Tryz.underlying40 HIN.out.1 HIN.out.2.1 HIN.out.2.2.1 HIN.out.2.2.2 rfl (by omega) _ k _ rfl (HOT.out.alloc _) (wr.heap.size+1) (some ⟨wr.heap.size,0,none⟩) 1 1 [.int .i64 (y:Int)] rfl (reads_new rfl (by omega) rfl) (ints_one (by simp)) (le_maxLen (by omega)) (le_bytes (by omega) (by omega)) (by simp; omega) ?_; intro A5 c5 w5 hown5 hg5)
   have hg6:(wr.alloc (.cells #[.int .i64 (y:Int)] 3)).grownBy w5 (Value.slice At k ct).ownBlock:=hg5
   have HB5:=Lib.hid (own_grown_below HB.out HOT.out (Nat.le_refl _) hg6)
   have HBX5:=Lib.hid ((HBX.out.alloc _).grown hg6 (own_blk_ne HOT.out HBX.out (by decide)).symm)
   have HON5:=Lib.hid (own_kept1 HON.out HOT.out (by decide) hg6)
   have HOT5:=Lib.hid (show intOwn w5 w.heap.size (.slice A5 (k+1) c5) (k+1) ((rs.take (k+1)).map (· / 2)) by
    unfold intOwn; rw [Gm.take_one HX.out,List.map_append,natVals_append]; simp only [List.map_cons,List.map_nil,HY.out]; exact hown5)
   clear hown5 hg5 hg6
   go_wp2_with fail
   go_roundw
   case rel=>exact ⟨k+1,by omega,by go_num,⟨_,_,rfl⟩,HB5.out,HBX5.out,HON5.out,HOT5.out⟩
   case measure=>simp [intOf]; omega
  ·obtain rfl:k=rs.length:=by omega
   rw [List.take_length] at hot
   obtain ⟨W2,hW2⟩:∃ W2:World,W2=wr:=⟨_,rfl⟩
   rw [← hW2] at hb hbx hon hot
   have HB:=Lib.hid hb
   have HBX:=Lib.hid hbx
   have HON:=Lib.hid hon
   have HOT:=Lib.hid hot
   clear hb hbx hon hot
   subst hW2
   go_wp2_with fail
   go_loopg [8] (3*Cn.left (List.replicate (gs.length+1) false)+rs.length) (fun gk tv wr=>CoR2 w gs rs W1.heap.size (gs.length+1) gk tv wr)
   case atStart=>
    refine ⟨List.replicate (gs.length+1) false,rs.map (· / 2),rs.length,rfl,by simp,Cn.dfs_start HH.out,?_,⟨At,ct,rfl⟩,HB.out,HBX.out,HON.out,HOT.out⟩
    have:=Cn.left_le (List.replicate (gs.length+1) false)
    simp at this; omega
   case round=>
    obtain ⟨nl,tl,L,hgk,htl,hd,hgk2,⟨At2,ct2,rfl⟩,hb,hbx,hon,hot⟩:=hrel
    rcases Nat.eq_zero_or_pos L with hL | hL
    ·subst hL
     obtain rfl:tl=[]:=List.eq_nil_of_length_eq_zero htl
     have hlen:=hd.len
     have HSP:=Lib.hid (show ∀ n,nl[n]? = some true↔(1≤n∧Cn.Reach gs rs n) from fun n=>Cn.dfs_end hd)
     obtain ⟨W5,hW5⟩:∃ W5,W5=wr.alloc (.cells #[.int .i64 0,.slice none 0 0] 39):=⟨_,rfl⟩
     have hb5:Below w.heap.size w W5:=by rw [hW5]; exact hb.alloc hb.size _
     have hs5:W5.heap.size=wr.heap.size+1:=by rw [hW5]; simp
     have bf5:Blk W5 wr.heap.size 39 #[.int .i64 0,.slice none 0 0]:=by rw [hW5]; exact Blk.new wr _ _
     have bx5:Blk W5 w.heap.size 39 #[.int .i64 0,.slice none 0 0]:=by rw [hW5]; exact hbx.alloc _
     have on5:=hon.alloc (.cells #[.int .i64 0,.slice none 0 0] 39)
     rw [← hW5] at on5
     have CG:=Lib.hid (gates_ga (HG.out.new hb5))
     have hmk2:=run_make_ints1 gs.length (by omega) W5
     have HLEN:=Lib.hid hlen
     have HB5:=Lib.hid hb5
     have HS5:=Lib.hid hs5
     have HBF5:=Lib.hid bf5
     have HBX5:=Lib.hid bx5
     have HON5:=Lib.hid on5
     have HW5:=Lib.hid hW5
     have hsr:w.heap.size≤wr.heap.size:=hb.size
     have hbxlt:w.heap.size<wr.heap.size:=hbx.lt
     clear hgk htl hd hgk2 hb hbx hon hot hlen hb5 hs5 bf5 bx5 on5 hW5
     go_wp2_with fail
     rw [← HW5.out]
     refine CG.out.mono ?_
     rintro e w' ⟨rfl,rfl⟩
     obtain ⟨bf,hbf⟩:∃ bf,wr.heap.size=bf:=⟨_,rfl⟩
     rw [hbf]
     have HBF:=Lib.hid hbf
     have HLT:=Lib.hid (show w.heap.size<bf by rw [← hbf]; exact hbxlt)
     clear hbf hbxlt
     go_wp2_with fail
     go_loopw [97] (fun iv wx=>CoR3 w gs nl W1.heap.size bf W5.heap.size iv wx) (fun iv _=>gs.length+1-(intOf iv).toNat)
     case atStart=>
      have h1:=HS5.out
      have h2:=HBF.out
      refine ⟨0,0,by omega,by simp [Cn.cnt],rfl,(HB5.out.alloc HB5.out.size _).alloc (by simp; have:=HB5.out.size; omega) _,(HBX5.out.alloc _).alloc _,(HON5.out.alloc _).alloc _,by rw [← h2]; exact (HBF5.out.alloc _).alloc _,?_,?_⟩
      ·have h3:intOwn (W5.alloc (.cells (natVals (List.replicate (gs.length+1) 0)).toArray 3)) w.heap.size (.slice (some ⟨W5.heap.size,0,none⟩) (gs.length+1) (gs.length+1)) (gs.length+1) (Cn.numTo nl 0):=by
        rw [Cn.numTo_zero,HLEN.out]
        exact own_full HB5.out.size (by rw [natVals_length]; simp) (by omega)
       exact h3.alloc _
      ·have h3:=Blk.new (W5.alloc (.cells (natVals (List.replicate (gs.length+1) 0)).toArray 3)) 40 #[.slice (some ⟨W5.heap.size,0,none⟩) (gs.length+1) (gs.length+1)]
       simpa using h3
     case round=>
      clear hmk2
      obtain ⟨k,q,hk,hq,rfl,hb,hbx,hon,hbf,hom,hbm⟩:=hrel
      by_cases hkl:k<gs.length+1
      ·obtain ⟨bb,hbb⟩:∃ bb,nl[k]? = some bb:=⟨_,List.getElem?_eq_getElem (by have:=HLEN.out; omega)⟩
       have cb:=bool_cell hon hbb
       have hkI:(k:Int)<(gs.length:Int)+1:=by omega
       have hc:=Cn.cnt_succ hbb
       have HQ:=Lib.hid hq
       have HB:=Lib.hid hb
       have HBX:=Lib.hid hbx
       have HON:=Lib.hid hon
       have HBf:=Lib.hid hbf
       have HOM:=Lib.hid hom
       have HBM:=Lib.hid hbm
       have HC:=Lib.hid hc
       have HBB:=Lib.hid hbb
       have hq9:q≤1000000:=by rw [hq]; have:=Cn.cnt_le nl k; omega
       cases bb with
       | false=>
        clear hq hb hbx hon hbf hom hbm hc hbb
        go_wp2_with fail
        go_roundw
        case rel=>exact ⟨k+1,q,by omega,by rw [HC.out,HQ.out]; simp,by go_num,HB.out,HBX.out,HON.out,HBf.out,by rw [Cn.numTo_skip HBB.out]; exact HOM.out,HBM.out⟩
        case measure=>simp [intOf]; omega
       | true=>
        have hq1:Cn.numAt nl k=q+1:=by unfold Cn.numAt; rw [if_pos hbb,hc,hq]; rfl
        obtain ⟨W6,hW6⟩:∃ W6,W6=wr.setCell ⟨bf,0,none⟩ (.int .i64 ((q:Int)+1)):=⟨_,rfl⟩
        have hbm6n:bf≠W5.heap.size+1:=Blk.ne_ hbf hbm (by decide)
        have hown6:W6.ownsRow w.heap.size 4 1 (.slice (some ⟨W1.heap.size,0,none⟩) (gs.length+1) (gs.length+1)) (gs.length+1) (boolVals nl):=by
         rw [hW6]; exact own_far hon _ (own_blk_ne hon hbf (by decide))
        have hom6:intOwn W6 w.heap.size (.slice (some ⟨W5.heap.size,0,none⟩) (gs.length+1) (gs.length+1)) (gs.length+1) (Cn.numTo nl k):=by
         rw [hW6]; exact own_far hom _ (own_blk_ne hom hbf (by decide))
        have hbf6:Blk W6 bf 39 #[.int .i64 ((q:Int)+1),.slice none 0 0]:=by rw [hW6]; exact hbf.set_ 0 _
        have hbm6:Blk W6 (W5.heap.size+1) 40 #[.slice (some ⟨W5.heap.size,0,none⟩) (gs.length+1) (gs.length+1)]:=by
         rw [hW6]; exact hbm.far (p:=⟨bf,0,none⟩) hbm6n.symm _
        have hbx6:Blk W6 w.heap.size 39 #[.int .i64 0,.slice none 0 0]:=by
         rw [hW6]; exact hbx.far (p:=⟨bf,0,none⟩) (by show w.heap.size≠bf; have:=HLT.out; omega) _
        have hb6:Below w.heap.size w W6:=by rw [hW6]; exact hb.setCell (by show w.heap.size≤bf; have:=HLT.out; omega) _
        have c0:=hbf.cell 0
        have f0:=hbf.frozen 0
        have c1:(wr.setCell ⟨bf,0,none⟩ (.int .i64 ((q:Int)+1))).cell? ⟨W5.heap.size+1,0,none⟩=some (.slice (some ⟨W5.heap.size,0,none⟩) (gs.length+1) (gs.length+1)):=by rw [← hW6]; exact hbm6.cell 0
        have c2:(wr.setCell ⟨bf,0,none⟩ (.int .i64 ((q:Int)+1))).cell? ⟨bf,0,none⟩=some (.int .i64 ((q:Int)+1)):=by rw [← hW6]; exact hbf6.cell 0
        obtain ⟨u,_,c3⟩:=own_cell (k:=k) hom6 hkl
        rw [hW6] at c3
        have f3:(wr.setCell ⟨bf,0,none⟩ (.int .i64 ((q:Int)+1))).frozen? ⟨W5.heap.size,k,none⟩=false:=by rw [← hW6]; exact own_unfrozen (k:=k) hom6
        have HW6:=Lib.hid hW6
        have HQ1:=Lib.hid hq1
        have HOM6:=Lib.hid hom6
        have HON6:=Lib.hid hown6
        have HBf6:=Lib.hid hbf6
        have HBM6:=Lib.hid hbm6
        have HBX6:=Lib.hid hbx6
        have HB6:=Lib.hid hb6
        clear hq hb hbx hon hbf hom hbm hc hbb hq1 hW6 hbm6n hown6 hom6 hbf6 hbm6 hbx6 hb6
        go_wp2_with fail
        rw [← HW6.out]
        go_roundw
        case rel=>
         refine ⟨k+1,q+1,by omega,by rw [HC.out,HQ.out]; simp,by go_num,HB6.out.setCell HB5.out.size _,HBX6.out.far (p:=⟨W5.heap.size,k,none⟩) ?_ _,own_far HON6.out _ ?_,HBf6.out.far (p:=⟨W5.heap.size,k,none⟩) ?_ _,?_,HBM6.out.far (p:=⟨W5.heap.size,k,none⟩) (by show W5.heap.size+1≠W5.heap.size; omega) _⟩
         ·intro e; exact own_blk_ne HOM6.out HBX6.out (by decide) (by rw [e]; rfl)
         ·rcases own_own_ne HON6.out HOM6.out (by decide) with h | h
          ·rw [h]; simp
          ·exact h
         ·intro e; exact own_blk_ne HOM6.out HBf6.out (by decide) (by rw [e]; rfl)
         ·show intOwn _ _ _ _ _
          unfold intOwn
          rw [Cn.numTo_succ (by have:=HLEN.out; omega),natVals_set,HQ1.out]
          exact own_set HOM6.out _
        case measure=>simp [intOf]; omega
      ·obtain rfl:k=gs.length+1:=by omega
       have hlen:=HLEN.out
       have hnum:Cn.numTo nl (gs.length+1)=Cn.nums nl:=by unfold Cn.nums; rw [hlen]
       rw [hnum] at hom
       rw [hq] at hbf
       have HB:=Lib.hid hb
       have HBX:=Lib.hid hbx
       have HON:=Lib.hid hon
       have HBf:=Lib.hid hbf
       have HOM:=Lib.hid hom
       have HBM:=Lib.hid hbm
       have hmf:∀ (fn:Fn) (first cap:Array Value) (w:World),(Instr.makeFunc fn first cap).run Tryz.prog w = .ok (.func fn first cap) w:=fun _ _ _ _=>rfl
       obtain ⟨ki,hki⟩:∃ ki:Int,((gs.length+1:Nat):Int)=ki:=⟨_,rfl⟩
       rw [hki]
       have hki2:¬ ki<(gs.length:Int)+1:=by omega
       clear hki
       clear hq hb hbx hon hbf hom hbm hlen hnum
       go_wp2_with fail
       clear hmf
       go_loopw [117] (fun iv wx=>CoR4 w gs nl W1.heap.size bf W5.heap.size iv wx) (fun iv _=>gs.length+1-(intOf iv).toNat)
       case atStart=>exact ⟨0,.slice none 0 0,by omega,rfl,HB.out,HBX.out,HON.out,HBf.out,HOM.out,HBM.out,by simpa [Cn.gatesC] using CsAt.nil _ _⟩
       case round=>
        obtain ⟨k,v,hk,rfl,hb,hbx,hon,hbf,hom,hbm,hcs⟩:=hrel
        by_cases hkl:k<gs.length+1
        ·obtain ⟨bb,hbb⟩:∃ bb,nl[k]? = some bb:=⟨_,List.getElem?_eq_getElem (by have:=HLEN.out; omega)⟩
         have cb:=bool_cell hon hbb
         have hkI:(k:Int)<(gs.length:Int)+1:=by omega
         have HB:=Lib.hid hb
         have HBX:=Lib.hid hbx
         have HON:=Lib.hid hon
         have HBf:=Lib.hid hbf
         have HOM:=Lib.hid hom
         have HBM:=Lib.hid hbm
         have HCS:=Lib.hid hcs
         have HBB:=Lib.hid hbb
         clear hb hbx hon hbf hom hbm hcs hbb
         cases bb with
         | false=>
          go_wp2_with fail
          go_roundw
          case rel=>
           refine ⟨k+1,v,by omega,by go_num,HB.out,HBX.out,HON.out,HBf.out,HOM.out,HBM.out,?_⟩
           have h:=HCS.out
           rcases k with _ | i
           ·exact h
           ·obtain ⟨g,hgi⟩:∃ g,gs[i]? = some g:=⟨_,List.getElem?_eq_getElem (by omega)⟩
            have h0:Cn.gateC nl i g=[]:=by unfold Cn.gateC; rw [if_neg]; rw [HBB.out]; simp
            simp only [Nat.add_sub_cancel] at h ⊢
            rw [gatesC_step hgi,h0,List.append_nil]; exact h
          case measure=>simp [intOf]; omega
         | true=>
          obtain ⟨i,rfl⟩:∃ i,k=i+1:=⟨k-1,by have:=((HSP.out k).1 HBB.out).1; omega⟩
          obtain ⟨g,hgi⟩:∃ g,gs[i]? = some g:=⟨_,List.getElem?_eq_getElem (by omega)⟩
          have CP:=Lib.hid (parts_ga (HG.out.new HB.out) hgi)
          have HGI:=Lib.hid hgi
          clear hgi
          go_wp2_with fail
          refine CP.out.mono ?_
          rintro e w4 ⟨rfl,hb4⟩
          have hb4w:=HB.out.trans (hb4.mono HB.out.size)
          have hon4:w4.ownsRow w.heap.size 4 1 (.slice (some ⟨W1.heap.size,0,none⟩) (gs.length+1) (gs.length+1)) (gs.length+1) (boolVals nl):=own_chg (S:=fun _ _=>False) HON.out (Chg.of_new hb4) (fun _ _ _ _ hs=>hs)
          have hom4:intOwn w4 w.heap.size (.slice (some ⟨W5.heap.size,0,none⟩) (gs.length+1) (gs.length+1)) (gs.length+1) (Cn.nums nl):=own_chg (S:=fun _ _=>False) HOM.out (Chg.of_new hb4) (fun _ _ _ _ hs=>hs)
          have hbx4:=HBX.out.below hb4 HBX.out.lt
          have hbf4:=HBf.out.below hb4 HBf.out.lt
          have hbm4:=HBM.out.below hb4 HBM.out.lt
          have hcs4:=HCS.out.chg hb4
          simp only [Nat.add_sub_cancel] at hcs4
          have hlen:=HLEN.out
          have c5:=hbm4.cell 0
          obtain ⟨u,hu,c6⟩:=own_cell (k:=i+1) hom4 (by omega)
          obtain rfl:Value.int .i64 (Cn.numAt nl (i+1):Nat)=u:=by
           rw [natVals_at (litNumAt (by omega))] at hu; injection hu
          have hz:=numAt_le nl (i+1)
          obtain ⟨z,hzz⟩:∃ z,Cn.numAt nl (i+1)=z:=⟨_,rfl⟩
          rw [hzz] at c6 hz
          have hz9:z≤100000:=by omega
          have HZ:=Lib.hid hzz
          have HB4:=Lib.hid hb4w
          have HON4:=Lib.hid hon4
          have HOM4:=Lib.hid hom4
          have HBX4:=Lib.hid hbx4
          have HBf4:=Lib.hid hbf4
          have HBM4:=Lib.hid hbm4
          have HCS4:=Lib.hid hcs4
          clear hb4 hb4w hon4 hom4 hbx4 hbf4 hbm4 hcs4 hlen hu hz hzz cb
          cases hin:g.inp with
          | true=>
           have HI:=Lib.hid hin
           clear hin
           go_wp2_with fail
           go_roundw
           case rel=>
            refine ⟨i+2,v,by omega,by go_num,HB4.out,HBX4.out,HON4.out,HBf4.out,HOM4.out,HBM4.out,?_⟩
            have h0:Cn.gateC nl i g=[]:=by unfold Cn.gateC; rw [if_neg]; rw [HI.out]; simp
            rw [show i+2-1=i+1 by omega,gatesC_step HGI.out,h0,List.append_nil]; exact HCS4.out
           case measure=>simp [intOf]; omega
          | false=>
           obtain ⟨g1,g2,g3⟩:=HG.out.wf.ahead i g HGI.out hin
           have ha2:g.a/2<gs.length+1:=by omega
           have hb2:g.b/2<gs.length+1:=by omega
           have la:=litN_le nl g.a
           have lb:=litN_le nl g.b
           rw [HLEN.out] at la lb
           have HI:=Lib.hid hin
           have HA2:=Lib.hid (And.intro ha2 hb2)
           have la1 : -100000≤Cn.litN nl g.a:=by omega
           have la2:Cn.litN nl g.a≤100000:=by omega
           have lb1 : -100000≤Cn.litN nl g.b:=by omega
           have lb2:Cn.litN nl g.b≤100000:=by omega
           have w1:IntKind.i64.wrap (-(z:Int)) = -(z:Int):=by rw [IntKind.wrap_i64]; omega
           have w2:IntKind.i64.wrap (-Cn.litN nl g.a) = -Cn.litN nl g.a:=by rw [IntKind.wrap_i64]; omega
           have w3:IntKind.i64.wrap (-Cn.litN nl g.b) = -Cn.litN nl g.b:=by rw [IntKind.wrap_i64]; omega
           clear hin g1 g2 g3 ha2 hb2 la lb
           go_wp2_with fail
           refine wp_region_mv (S:=fun w'=>w'.cell? ⟨bf,1,none⟩=some v∧Blk w' bf 39 #[.int .i64 (Cn.cnt nl (gs.length+1):Nat),v]∧Blk w' (W5.heap.size+1) 40 #[.slice (some ⟨W5.heap.size,0,none⟩) (gs.length+1) (gs.length+1)]∧intOwn w' w.heap.size (.slice (some ⟨W5.heap.size,0,none⟩) (gs.length+1) (gs.length+1)) (gs.length+1) (Cn.nums nl)) 27 [.f 0,.f 1,.f 2,.f 3,.f 4,.f 5,.f 6,.f 8,.f 9,.f 10,.f 11,.f 12,.f 14,.f 15,.f 16,.f 17,.f 18,.f 19,.f 20,.f 21,.f 22,.all 7 13 23,.t 24,.t 25,.f 26,.t 27] (by kernel_rfl) (by kernel_rfl) (by kernel_rfl) ⟨HBf4.out.drew.cell 1,HBf4.out.drew,HBM4.out.drew,World.ownsRow.drew HOM4.out⟩ ?_
           iterate 6 (refine mv_take _ _ rfl (by kernel_rfl) (fun wv hv=>by obtain ⟨hv1,hv2,hv3,hv4⟩:=hv; go_simp; try with_reducible rfl) ?_; simp only [Act.put,List.getElem_toArray,List.getElem_cons_zero,List.getElem_cons_succ,List.setIfInBounds_toArray,List.set_cons_zero,List.set_cons_succ])
           refine mv_quiet _ _ _ _ rfl (by kernel_rfl) (fun wv hv=>by go_simp; try with_reducible rfl) (fun wv hv=>of_lit_n HLEN.out hv.2.2.2 hv.2.2.1 HA2.out.1 (by omega)) ?_
           simp only [Act.put,List.getElem_toArray,List.getElem_cons_zero,List.getElem_cons_succ,List.setIfInBounds_toArray,List.set_cons_zero,List.set_cons_succ]
           iterate 4 (refine mv_take _ _ rfl (by kernel_rfl) (fun wv hv=>by obtain ⟨hv1,hv2,hv3,hv4⟩:=hv; go_simp; try with_reducible rfl) ?_; simp only [Act.put,List.getElem_toArray,List.getElem_cons_zero,List.getElem_cons_succ,List.setIfInBounds_toArray,List.set_cons_zero,List.set_cons_succ])
           refine mv_quiet _ _ _ _ rfl (by kernel_rfl) (fun wv hv=>by go_simp; try with_reducible rfl) (fun wv hv=>of_lit_n HLEN.out hv.2.2.2 hv.2.2.1 HA2.out.2 (by omega)) ?_
           simp only [Act.put,List.getElem_toArray,List.getElem_cons_zero,List.getElem_cons_succ,List.setIfInBounds_toArray,List.set_cons_zero,List.set_cons_succ]
           iterate 3 (refine mv_take _ _ rfl (by kernel_rfl) (fun wv hv=>by obtain ⟨hv1,hv2,hv3,hv4⟩:=hv; go_simp; try with_reducible rfl) ?_; simp only [Act.put,List.getElem_toArray,List.getElem_cons_zero,List.getElem_cons_succ,List.setIfInBounds_toArray,List.set_cons_zero,List.set_cons_succ])
           refine mv_quiet _ _ _ _ rfl (by kernel_rfl) (fun wv hv=>by go_simp; try with_reducible rfl) (fun wv hv=>of_lit_n HLEN.out hv.2.2.2 hv.2.2.1 HA2.out.1 (by omega)) ?_
           simp only [Act.put,List.getElem_toArray,List.getElem_cons_zero,List.getElem_cons_succ,List.setIfInBounds_toArray,List.set_cons_zero,List.set_cons_succ]
           iterate 3 (refine mv_take _ _ rfl (by kernel_rfl) (fun wv hv=>by obtain ⟨hv1,hv2,hv3,hv4⟩:=hv; go_simp; try with_reducible rfl) ?_; simp only [Act.put,List.getElem_toArray,List.getElem_cons_zero,List.getElem_cons_succ,List.setIfInBounds_toArray,List.set_cons_zero,List.set_cons_succ])
           refine mv_quiet _ _ _ _ rfl (by kernel_rfl) (fun wv hv=>by go_simp; try with_reducible rfl) (fun wv hv=>of_lit_n HLEN.out hv.2.2.2 hv.2.2.1 HA2.out.2 (by omega)) ?_
           simp only [Act.put,List.getElem_toArray,List.getElem_cons_zero,List.getElem_cons_succ,List.setIfInBounds_toArray,List.set_cons_zero,List.set_cons_succ]
           iterate 1 (refine mv_take _ _ rfl (by kernel_rfl) (fun wv hv=>by obtain ⟨hv1,hv2,hv3,hv4⟩:=hv; go_simp; try with_reducible rfl) ?_; simp only [Act.put,List.getElem_toArray,List.getElem_cons_zero,List.getElem_cons_succ,List.setIfInBounds_toArray,List.set_cons_zero,List.set_cons_succ])
           refine mv_rows3 _ _ _ rfl rfl rfl (by kernel_rfl) (by kernel_rfl) (by kernel_rfl) (by kernel_rfl) (by kernel_rfl) (by kernel_rfl) (by kernel_rfl) 3 [.int .i64 (-(z:Int)),.int .i64 (Cn.litN nl g.a)] [.int .i64 (-(z:Int)),.int .i64 (Cn.litN nl g.b)] [.int .i64 (z:Int),.int .i64 (-Cn.litN nl g.a),.int .i64 (-Cn.litN nl g.b)]
            ⟨by kernel_rfl,fun wv=>by go_simp⟩ ⟨by kernel_rfl,fun wv=>by go_simp⟩ ⟨by kernel_rfl,fun wv=>by go_simp⟩ (by simp) (by simp) (by simp) ⟨HBf4.out.drew.cell 1,HBf4.out.drew,HBM4.out.drew,World.ownsRow.drew HOM4.out⟩ (fun wv o h=>⟨(h.2.1.alloc o).cell 1,h.2.1.alloc o,h.2.2.1.alloc o,World.ownsRow.alloc h.2.2.2 o⟩) ?_
           intro n1 n2 n3 w5 o1 o2 o3 hb5 hS5
           simp only [Act.put,List.getElem_toArray,List.getElem_cons_zero,List.getElem_cons_succ,List.setIfInBounds_toArray,List.set_cons_zero,List.set_cons_succ]
           have HS5':=Lib.hid hS5
           have HO5:=Lib.hid (And.intro o1 (And.intro o2 o3))
           have HB5':=Lib.hid hb5
           clear hS5 o1 o2 o3 hb5
           refine mv_act _ rfl (fun K hK=>?_)
           go_simp
           go_simp
           refine hK _ _ (.inr (⟨(HS5'.out.2.1.alloc _).cell 1,HS5'.out.2.1.alloc _,HS5'.out.2.2.1.alloc _,World.ownsRow.alloc HS5'.out.2.2.2 _⟩)) ?_
           clear hK K
           obtain ⟨rows,hrow,hcl⟩:=HCS4.out
           have hgl:=gatesC_le nl (gs.take i) 0
           have hgl2:(gs.take i).length≤gs.length:=by rw [List.length_take]; omega
           have hcn:(Cn.gatesC nl 0 (gs.take i)).length≤300000:=by omega
           obtain ⟨ic,hic0,hic1,hic2,hic3⟩:=info_parts infoClause_
           have hrow5:w5.ownsRow w.heap.size 72 1 v (Cn.gatesC nl 0 (gs.take i)).length rows:=own_chg (S:=fun _ _=>False) (World.ownsRow.drew hrow) (Chg.of_new HB5'.out) (fun _ _ _ _ hs=>hs)
           have HROW:=Lib.hid hrow5
           have HCL:=Lib.hid hcl
           have HIC:=Lib.hid (And.intro hic0 (And.intro hic1 (And.intro hic2 hic3)))
           have hs5:w.heap.size≤w5.heap.size:=Nat.le_trans HB4.out.size HB5'.out.size
           clear hrow hcl hgl hgl2 hrow5 hic0 hic1 hic2 hic3
           refine mv_act _ rfl (fun K hK=>?_)
           refine step_append_sl _ rfl (.tmp 140) (.tmp 163) _ rfl w.heap.size 72 ic _ 1 24 Tryz.underlying37 HIC.out.1 HIC.out.2.1 HIC.out.2.2.1 HIC.out.2.2.2 rfl (by omega) v (Cn.gatesC nl 0 (gs.take i)).length rows rfl (HROW.out.alloc _) (w5.heap.size+1) (some ⟨w5.heap.size,0,none⟩) 3 3 [.slice (some ⟨n1,0,none⟩) 2 2,.slice (some ⟨n2,0,none⟩) 2 2,.slice (some ⟨n3,0,none⟩) 3 3] rfl (reads_new rfl (by omega) rfl) (by intro u hu; simp only [List.mem_cons,List.not_mem_nil,or_false] at hu; rcases hu with rfl | rfl | rfl <;> rfl) (le_maxLen (by omega)) (le_bytes (by omega) (by omega)) (by simp; omega) ?_
           intro A6 c6' w6 hown6 hg6
           have hbf6:=(HS5'.out.2.1.alloc _).grown hg6 (own_blk_ne HROW.out HS5'.out.2.1 (by decide)).symm
           have hbm6:=(HS5'.out.2.2.1.alloc _).grown hg6 (own_blk_ne HROW.out HS5'.out.2.2.1 (by decide)).symm
           have hom6:=own_kept1 HS5'.out.2.2.2 HROW.out (by decide) hg6
           refine hK _ _ (.inr (⟨hbf6.cell 1,hbf6,hbm6,hom6⟩)) ?_
           clear hK K
           try simp only [Act.put,List.getElem_toArray,List.getElem_cons_zero,List.getElem_cons_succ,List.setIfInBounds_toArray,List.set_cons_zero,List.set_cons_succ]
           iterate 1 (refine mv_take _ _ rfl (by kernel_rfl) (fun wv hv=>by obtain ⟨hv1,hv2,hv3,hv4⟩:=hv; go_simp; try with_reducible rfl) ?_; simp only [Act.put,List.getElem_toArray,List.getElem_cons_zero,List.getElem_cons_succ,List.setIfInBounds_toArray,List.set_cons_zero,List.set_cons_succ])
           have f6:=hbf6.frozen 1
           have f6c:w6.cell? ⟨bf,1,none⟩=some v:=hbf6.cell 1
           refine mv_act _ rfl (fun K hK=>?_)
           go_simp
           go_simp
           refine hK _ _ (.inl rfl) ?_
           clear hK K
           refine mv_nil ?_
           have HOWN6:=Lib.hid hown6
           have HG6:=Lib.hid hg6
           clear hown6 hg6 hbf6 hbm6 hom6 f6 f6c
           have hbw5:Below w.heap.size w w5:=(below_drewN HB4.out 1).trans (HB5'.out.mono HB4.out.size)
           have hbx5:=(HBX4.out.drew).below HB5'.out HBX4.out.lt
           have hon5:w5.ownsRow w.heap.size 4 1 (.slice (some ⟨W1.heap.size,0,none⟩) (gs.length+1) (gs.length+1)) (gs.length+1) (boolVals nl):=own_chg (S:=fun _ _=>False) (World.ownsRow.drew HON4.out) (Chg.of_new HB5'.out) (fun _ _ _ _ hs=>hs)
           have hzi:Cn.gateC nl i g=[[-(z:Int),Cn.litN nl g.a],[-(z:Int),Cn.litN nl g.b],[(z:Int),-Cn.litN nl g.a,-Cn.litN nl g.b]]:=by
            unfold Cn.gateC; rw [if_pos ⟨HBB.out,HI.out⟩,HZ.out]
           obtain ⟨p1,p2,p3,p4,p5,p6,p7⟩:=co_push (new:=Cn.gateC nl i g) hbw5 hbx5 HS5'.out.2.1 HLT.out HS5'.out.2.2.2 HS5'.out.2.2.1 HROW.out
            (fun i' l hl=>by
             obtain ⟨u,h1,h2⟩:=HCL.out i' l hl
             exact ⟨u,h1,own_chg (S:=fun _ _=>False) (World.ownsRow.drew h2) (Chg.of_new HB5'.out) (fun _ _ _ _ hs=>hs)⟩)
            (news:=[.slice (some ⟨n1,0,none⟩) 2 2,.slice (some ⟨n2,0,none⟩) 2 2,.slice (some ⟨n3,0,none⟩) 3 3])
            (fun i' l hl=>by
             rw [hzi] at hl
             obtain ⟨o1,o2,o3⟩:=HO5.out
             match i',hl with
             | 0,hl=>
              obtain rfl:[-(z:Int),Cn.litN nl g.a]=l:=by simpa using hl
              exact ⟨_,rfl,own_base o1 HB4.out.size⟩
             | 1,hl=>
              obtain rfl:[-(z:Int),Cn.litN nl g.b]=l:=by simpa using hl
              exact ⟨_,rfl,own_base o2 HB4.out.size⟩
             | 2,hl=>
              obtain rfl:[(z:Int),-Cn.litN nl g.a,-Cn.litN nl g.b]=l:=by simpa using hl
              exact ⟨_,rfl,own_base o3 HB4.out.size⟩)
            HG6.out (by rw [hzi]; exact HOWN6.out)
           have HP:=Lib.hid (And.intro p1 (And.intro p2 (And.intro p3 (And.intro p4 (And.intro p5 p6)))))
           have HP7:=Lib.hid (p7 _ _ _ hon5)
           clear hbw5 hbx5 hon5 hzi p1 p2 p3 p4 p5 p6 p7
           go_wp2_with fail
           go_roundw
           case rel=>
            obtain ⟨p1,p2,p3,p4,p5,p6⟩:=HP.out
            refine ⟨i+2,_,by omega,by go_num,p1,p2,HP7.out,p3,p4,p5,?_⟩
            rw [show i+2-1=i+1 by omega,gatesC_step HGI.out]; exact p6
           case measure=>simp [intOf]; omega
        ·obtain rfl:k=gs.length+1:=by omega
         rw [Nat.add_sub_cancel,List.take_length] at hcs
         have HB:=Lib.hid hb
         have HBX:=Lib.hid hbx
         have HBf:=Lib.hid hbf
         have HOM:=Lib.hid hom
         have HBM:=Lib.hid hbm
         have HCS:=Lib.hid hcs
         obtain ⟨kj,hkj⟩:∃ kj:Int,((gs.length+1:Nat):Int)=kj:=⟨_,rfl⟩
         rw [hkj]
         have hkj2:¬ kj<(gs.length:Int)+1:=by omega
         clear hkj hb hbx hon hbf hom hbm hcs
         go_wp2_with fail
         go_loopw [169] (fun iv wx=>CoR5 w gs nl rs bf W5.heap.size iv wx) (fun iv _=>rs.length-(intOf iv).toNat)
         case atStart=>exact ⟨0,v,Nat.zero_le _,rfl,HB.out,HBX.out,HBf.out,HOM.out,HBM.out,by simpa [Cn.rootsC] using HCS.out⟩
         case round=>
          obtain ⟨k,v,hk,rfl,hb,hbx,hbf,hom,hbm,hcs⟩:=hrel
          have HB:=Lib.hid hb
          have HBX:=Lib.hid hbx
          have HBf:=Lib.hid hbf
          have HOM:=Lib.hid hom
          have HBM:=Lib.hid hbm
          by_cases hkl:k<rs.length
          ·obtain ⟨x,hx⟩:∃ x,rs[k]? = some x:=⟨_,List.getElem?_eq_getElem hkl⟩
           obtain ⟨ad,hA,hadb,hcell⟩:=HR.out.2 (by omega)
           subst hA
           have cx:=(hb.cell (p:=ad.add k) (by rw [block_of_add]; have:=HBR.out; omega)).trans (hcell k _ (natVals_at hx))
           have hxh:=HH.out x (List.mem_of_getElem? hx)
           have hx0:x/2<gs.length+1:=by unfold Gm.has at hxh; omega
           have HX:=Lib.hid hx
           obtain ⟨rows,hrow,hcl⟩:=hcs
           have hgl:=gatesC_le nl gs 0
           have hrl:=rootsC_le nl (rs.take k)
           have hrl2:(rs.take k).length≤rs.length:=by rw [List.length_take]; omega
           have hcn:(Cn.gatesC nl 0 gs++Cn.rootsC nl (rs.take k)).length≤300000:=by rw [List.length_append]; omega
           obtain ⟨ic,hic0,hic1,hic2,hic3⟩:=info_parts infoClause_
           have HROW:=Lib.hid hrow
           have HCL:=Lib.hid hcl
           have HIC:=Lib.hid (And.intro hic0 (And.intro hic1 (And.intro hic2 hic3)))
           have hsr:=hb.size
           have c1:=hbf.cell 1
           clear hx hcell hxh hb hbx hbf hom hbm hrow hcl hgl hrl hrl2 hic0 hic1 hic2 hic3
           by_cases hx00:x=0
           ·have he0:((x:Int) == 0)=true:=by subst hx00; rfl
            have HX0:=Lib.hid hx00
            clear hx00
            go_wp2_with (at_builtin; refine wpList_append_sl _ rfl (.tmp 186) (.tmp 188) _ rfl w.heap.size 72 ic _ 1 24 Tryz.underlying37 HIC.out.1 HIC.out.2.1 HIC.out.2.2.1 HIC.out.2.2.2 rfl (by omega) v _ rows rfl ((HROW.out.alloc _).alloc _) (wr.heap.size+2) (some ⟨wr.heap.size+1,0,none⟩) 1 1 [.slice (some ⟨wr.heap.size,0,none⟩) 0 0] rfl (reads_new (by simp) (by simp) rfl) (by intro u hu; rw [List.mem_singleton.1 hu]; rfl) (le_maxLen (by omega)) (le_bytes (by omega) (by omega)) (by simp; omega) ?_; intro A6 c6 w6 hown6 hg6; have hbf6:=((HBf.out.alloc _).alloc _).grown hg6 (own_blk_ne HROW.out HBf.out (by decide)).symm; have c6c:=hbf6.cell 1; have c6f:=hbf6.frozen 1)
            have HOWN6:=Lib.hid hown6
            have HG6:=Lib.hid hg6
            clear hown6 hg6 c6c c6f hbf6
            obtain ⟨p1,p2,p3,p4,p5,p6,p7⟩:=co_push (new:=Cn.rootC nl x) (wz:=wr.alloc (.cells #[] 3)) (HB.out.alloc HB.out.size _) (HBX.out.alloc _) (HBf.out.alloc _) HLT.out (World.ownsRow.alloc HOM.out _) (HBM.out.alloc _) (HROW.out.alloc _)
             (fun i' l hl=>by
              obtain ⟨u,h1,h2⟩:=HCL.out i' l hl
              exact ⟨u,h1,h2.alloc _⟩)
             (news:=[.slice (some ⟨wr.heap.size,0,none⟩) 0 0])
             (fun i' l hl=>by
              rw [HX0.out] at hl
              match i',hl with
              | 0,hl=>
               obtain rfl:[]=l:=by simpa [Cn.rootC] using hl
               exact ⟨_,rfl,own_full HB.out.size rfl (by simp)⟩)
             HG6.out (by rw [HX0.out]; exact HOWN6.out)
            have hP:=And.intro p1 (And.intro p2 (And.intro p3 (And.intro p4 (And.intro p5 p6))))
            simp only [List.length_append] at hP
            have HP:=Lib.hid hP
            clear p1 p2 p3 p4 p5 p6 p7 hP
            go_wp2_with fail
            go_roundw
            case rel=>
             obtain ⟨p1,p2,p3,p4,p5,p6⟩:=HP.out
             exact ⟨k+1,_,by omega,by go_num,p1,p2,p3,p4,p5,by rw [rootsC_step HX.out,← List.append_assoc]; exact p6⟩
            case measure=>simp [intOf]; omega
           ·have hne0:((x:Int) == 0)=false:=by simp; omega
            by_cases hx01:x=1
            ·have he1:((x:Int) == 1)=true:=by subst hx01; rfl
             have HX1:=Lib.hid hx01
             clear hx00 hx01
             go_wp2_with fail
             go_roundw
             case rel=>exact ⟨k+1,v,by omega,by go_num,HB.out,HBX.out,HBf.out,HOM.out,HBM.out,by rw [rootsC_step HX.out]; unfold Cn.rootC; rw [if_neg (by rw [HX1.out]; omega),if_pos HX1.out,List.append_nil]; exact ⟨rows,HROW.out,HCL.out⟩⟩
             case measure=>simp [intOf]; omega
            ·have hne1:((x:Int) == 1)=false:=by simp; omega
             have HXN:=Lib.hid (And.intro hx00 hx01)
             clear hx00 hx01
             go_wp2_with fail
             refine wp_region_mv (S:=fun w'=>w'.cell? ⟨bf,1,none⟩=some v∧Blk w' bf 39 #[.int .i64 (Cn.cnt nl (gs.length+1):Nat),v]∧Blk w' (W5.heap.size+1) 40 #[.slice (some ⟨W5.heap.size,0,none⟩) (gs.length+1) (gs.length+1)]∧intOwn w' w.heap.size (.slice (some ⟨W5.heap.size,0,none⟩) (gs.length+1) (gs.length+1)) (gs.length+1) (Cn.nums nl)) 9 [.f 0,.f 1,.f 2,.f 3,.f 4,.t 5,.t 6,.t 7,.f 8,.t 9] (by kernel_rfl) (by kernel_rfl) (by kernel_rfl) ⟨HBf.out.drew.cell 1,HBf.out.drew,HBM.out.drew,World.ownsRow.drew HOM.out⟩ ?_
             iterate 4 (refine mv_take _ _ rfl (by kernel_rfl) (fun wv hv=>by obtain ⟨hv1,hv2,hv3,hv4⟩:=hv; go_simp; try with_reducible rfl) ?_; simp only [Act.put,List.getElem_toArray,List.getElem_cons_zero,List.getElem_cons_succ,List.setIfInBounds_toArray,List.set_cons_zero,List.set_cons_succ])
             refine mv_quiet _ _ _ _ rfl (by kernel_rfl) (fun wv hv=>by go_simp; try with_reducible rfl) (fun wv hv=>of_lit_n HLEN.out hv.2.2.2 hv.2.2.1 hx0 (by omega)) ?_
             simp only [Act.put,List.getElem_toArray,List.getElem_cons_zero,List.getElem_cons_succ,List.setIfInBounds_toArray,List.set_cons_zero,List.set_cons_succ]
             refine mv_act _ rfl (fun K hK=>?_)
             go_simp
             go_simp
             refine hK _ _ (.inr (⟨(HBf.out.drew.alloc _).cell 1,HBf.out.drew.alloc _,HBM.out.drew.alloc _,World.ownsRow.alloc (World.ownsRow.drew HOM.out) _⟩)) ?_
             clear hK K
             refine mv_act _ rfl (fun K hK=>?_)
             go_simp
             go_simp
             refine hK _ _ (.inr (⟨((HBf.out.drew.alloc _).alloc _).cell 1,(HBf.out.drew.alloc _).alloc _,(HBM.out.drew.alloc _).alloc _,World.ownsRow.alloc (World.ownsRow.alloc (World.ownsRow.drew HOM.out) _) _⟩)) ?_
             clear hK K
             refine mv_act _ rfl (fun K hK=>?_)
             refine step_append_sl _ rfl (.tmp 175) (.tmp 180) _ rfl w.heap.size 72 ic _ 1 24 Tryz.underlying37 HIC.out.1 HIC.out.2.1 HIC.out.2.2.1 HIC.out.2.2.2 rfl (by omega) v _ rows rfl (((World.ownsRow.drew HROW.out).alloc _).alloc _) (wr.heap.size+2) (some ⟨wr.heap.size+1,0,none⟩) 1 1 [.slice (some ⟨wr.heap.size,0,none⟩) 1 1] rfl (reads_new (by simp) (by simp) rfl) (by intro u hu; rw [List.mem_singleton.1 hu]; rfl) (le_maxLen (by omega)) (le_bytes (by omega) (by omega)) (by simp; omega) ?_
             intro A6 c6 w6 hown6 hg6
             have hbf6:=((HBf.out.drew.alloc _).alloc _).grown hg6 (own_blk_ne HROW.out HBf.out (by decide)).symm
             have hbm6:=((HBM.out.drew.alloc _).alloc _).grown hg6 (own_blk_ne HROW.out HBM.out (by decide)).symm
             have hom6:=own_kept1 (World.ownsRow.alloc (World.ownsRow.drew HOM.out) _) ((World.ownsRow.drew HROW.out).alloc _) (by decide) hg6
             refine hK _ _ (.inr (⟨hbf6.cell 1,hbf6,hbm6,hom6⟩)) ?_
             clear hK K
             try simp only [Act.put,List.getElem_toArray,List.getElem_cons_zero,List.getElem_cons_succ,List.setIfInBounds_toArray,List.set_cons_zero,List.set_cons_succ]
             iterate 1 (refine mv_take _ _ rfl (by kernel_rfl) (fun wv hv=>by obtain ⟨hv1,hv2,hv3,hv4⟩:=hv; go_simp; try with_reducible rfl) ?_; simp only [Act.put,List.getElem_toArray,List.getElem_cons_zero,List.getElem_cons_succ,List.setIfInBounds_toArray,List.set_cons_zero,List.set_cons_succ])
             have c6c:=hbf6.cell 1
             have c6f:=hbf6.frozen 1
             refine mv_act _ rfl (fun K hK=>?_)
             go_simp
             go_simp
             refine hK _ _ (.inl rfl) ?_
             clear hK K
             refine mv_nil ?_
             have HOWN6:=Lib.hid hown6
             have HG6:=Lib.hid hg6
             clear hown6 hg6 c6c c6f hbf6 hbm6 hom6
             have hnw:Cn.rootC nl x=[[Cn.litN nl x]]:=by unfold Cn.rootC; rw [if_neg HXN.out.1,if_neg HXN.out.2]
             obtain ⟨p1,p2,p3,p4,p5,p6,p7⟩:=co_push (new:=Cn.rootC nl x) (wz:=wr.drew.alloc (.cells #[.int .i64 (Cn.litN nl x)] 3)) ((below_drewN HB.out 1).alloc HB.out.size _) (HBX.out.drew.alloc _) (HBf.out.drew.alloc _) HLT.out (World.ownsRow.alloc (World.ownsRow.drew HOM.out) _) (HBM.out.drew.alloc _) ((World.ownsRow.drew HROW.out).alloc _)
              (fun i' l hl=>by
               obtain ⟨u,h1,h2⟩:=HCL.out i' l hl
               exact ⟨u,h1,(World.ownsRow.drew h2).alloc _⟩)
              (news:=[.slice (some ⟨wr.heap.size,0,none⟩) 1 1])
              (fun i' l hl=>by
               rw [hnw] at hl
               match i',hl with
               | 0,hl=>
                obtain rfl:[Cn.litN nl x]=l:=by simpa using hl
                exact ⟨_,rfl,own_full (w:=wr.drew) HB.out.size rfl (by simp)⟩)
              HG6.out (by rw [hnw]; exact HOWN6.out)
             have hP:=And.intro p1 (And.intro p2 (And.intro p3 (And.intro p4 (And.intro p5 p6))))
             simp only [List.length_append] at hP
             have HP:=Lib.hid hP
             clear p1 p2 p3 p4 p5 p6 p7 hnw hP
             go_wp2_with fail
             go_roundw
             case rel=>
              obtain ⟨p1,p2,p3,p4,p5,p6⟩:=HP.out
              exact ⟨k+1,_,by omega,by go_num,p1,p2,p3,p4,p5,by rw [rootsC_step HX.out,← List.append_assoc]; exact p6⟩
             case measure=>simp [intOf]; omega
          ·obtain rfl:k=rs.length:=by omega
           rw [List.take_length] at hcs
           obtain ⟨rows,hrow,hcl⟩:=hcs
           obtain ⟨Av,cv,rfl⟩:=own_form hrow
           have HCS:=Lib.hid (show CsAt wr w.heap.size (.slice Av (Cn.gatesC nl 0 gs++Cn.rootsC nl rs).length cv) (Cn.clausesC gs nl rs) from ⟨rows,hrow,hcl⟩)
           rw [List.length_append] at HCS hbf
           obtain ⟨W9,hW9⟩:∃ W9,W9=((wr.setCell ⟨w.heap.size,0,none⟩ (.int .i64 (Cn.cnt nl (gs.length+1):Nat))).setCell ⟨w.heap.size,1,none⟩ (.slice Av ((Cn.gatesC nl 0 gs).length+(Cn.rootsC nl rs).length) cv)).drew:=⟨_,rfl⟩
           have x9:Blk W9 w.heap.size 39 #[.int .i64 (Cn.cnt nl (gs.length+1):Nat),.slice Av ((Cn.gatesC nl 0 gs).length+(Cn.rootsC nl rs).length) cv]:=by rw [hW9]; exact ((hbx.set_ 0 _).set_ 1 _).drew
           have hne9:w.heap.size≠bf:=by have:=HLT.out; omega
           have f9:Blk W9 bf 39 #[.int .i64 (Cn.cnt nl (gs.length+1):Nat),.slice Av ((Cn.gatesC nl 0 gs).length+(Cn.rootsC nl rs).length) cv]:=by rw [hW9]; exact ((hbf.far (p:=⟨w.heap.size,0,none⟩) hne9.symm _).far (p:=⟨w.heap.size,1,none⟩) hne9.symm _).drew
           have m9:Blk W9 (W5.heap.size+1) 40 #[.slice (some ⟨W5.heap.size,0,none⟩) (gs.length+1) (gs.length+1)]:=by rw [hW9]; exact ((hbm.far (p:=⟨w.heap.size,0,none⟩) (Blk.ne_ hbm hbx (by decide)) _).far (p:=⟨w.heap.size,1,none⟩) (Blk.ne_ hbm hbx (by decide)) _).drew
           have hb9:Below w.heap.size w W9:=by rw [hW9]; exact below_drewN ((hb.setCell (Nat.le_refl _) _).setCell (Nat.le_refl _) _) 1
           have o9:intOwn W9 w.heap.size (.slice (some ⟨W5.heap.size,0,none⟩) (gs.length+1) (gs.length+1)) (gs.length+1) (Cn.nums nl):=by
            rw [hW9]
            exact World.ownsRow.drew (own_far (own_far hom _ (own_blk_ne hom hbx (by decide))) _ (own_blk_ne hom hbx (by decide)))
           have cs9:CsAt W9 w.heap.size (.slice Av ((Cn.gatesC nl 0 gs).length+(Cn.rootsC nl rs).length) cv) (Cn.clausesC gs nl rs):=by
            rw [hW9]
            exact ((HCS.out.far hbx (by decide) (by decide) 0 _).far (hbx.set_ 0 _) (by decide) (by decide) 1 _).chg (below_drewN (Below.refl _ _) 1)
           have cb0:=hbf.cell 0
           have cb1:=hbf.cell 1
           have cm0:=hbm.cell 0
           have cx0:=hbx.cell 0
           have cx1:=hbx.cell 1
           have fx0:=hbx.frozen 0
           have fx1:=hbx.frozen 1
           have HW9:=Lib.hid hW9
           have H9:=Lib.hid (And.intro (f9.cell 0) (And.intro (f9.cell 1) (m9.cell 0)))
           have x90:=x9.cell 0
           have x91:=x9.cell 1
           have HO9:=Lib.hid o9
           have HC9:=Lib.hid cs9
           have HB9:=Lib.hid hb9
           clear hb hbx hbf hom hbm hrow hcl hW9 x9 f9 m9 hb9 o9 cs9
           go_wp2_with fail
           refine wp_region_seq (S:=fun w'=>w'.cell? ⟨bf,0,none⟩=some (.int .i64 (Cn.cnt nl (gs.length+1):Nat))∧w'.cell? ⟨bf,1,none⟩=some (.slice Av ((Cn.gatesC nl 0 gs).length+(Cn.rootsC nl rs).length) cv)∧w'.cell? ⟨W5.heap.size+1,0,none⟩=some (.slice (some ⟨W5.heap.size,0,none⟩) (gs.length+1) (gs.length+1))) [(0,false),(1,false),(2,true),(3,false),(4,false)] (by kernel_rfl) (by kernel_rfl) (by kernel_rfl) (by simpa using And.intro cb0 (And.intro cb1 cm0)) ?_
           iterate 2 (refine seq_take _ _ rfl (by kernel_rfl) (fun wv hv=>by obtain ⟨hv1,hv2,hv3⟩:=hv; go_simp; try with_reducible rfl) ?_; simp only [Act.put,List.getElem_toArray,List.getElem_cons_zero,List.getElem_cons_succ,List.setIfInBounds_toArray,List.set_cons_zero,List.set_cons_succ])
           refine seq_act _ rfl (fun K hK=>?_)
           go_simp
           rw [← HW9.out]
           go_simp
           refine hK _ _ (H9.out) ?_
           clear hK K
           iterate 2 (refine seq_take _ _ rfl (by kernel_rfl) (fun wv hv=>by go_simp; try with_reducible rfl) ?_; simp only [Act.put,List.getElem_toArray,List.getElem_cons_zero,List.getElem_cons_succ,List.setIfInBounds_toArray,List.set_cons_zero,List.set_cons_succ])
           refine seq_nil ?_
           clear cb0 cb1 cm0 cx0 cx1 fx0 fx1
           go_wp2_with fail
           refine bodyPost_ret (v:=.tuple #[.agg #[.int .i64 (Cn.cnt nl (gs.length+1):Nat),.slice Av ((Cn.gatesC nl 0 gs).length+(Cn.rootsC nl rs).length) cv],.slice (some ⟨W5.heap.size,0,none⟩) (gs.length+1) (gs.length+1),.nilIface]) (by simp [results,Tryz.results8,go_sem,x90,x91]) rfl ?_
           have hcl:(Cn.clausesC gs nl rs).length=(Cn.gatesC nl 0 gs).length+(Cn.rootsC nl rs).length:=by unfold Cn.clausesC; rw [List.length_append]
           refine ⟨nl,Av,_,cv,_,HSP.out,HLEN.out,by rw [hcl],HB9.out,by rw [hcl]; exact HC9.out,HO9.out⟩
    ·obtain ⟨M,rfl⟩:∃ M,L=M+1:=⟨L-1,by omega⟩
     obtain ⟨tl',n,rfl,htl'⟩:=snoc_of htl
     obtain ⟨gt,rfl,hgt1,hgt2⟩:=own_some hot (by omega)
     have hcapN:=own_cap hot (by omega)
     have hcap:(M:Int)≤(ct2:Int):=by omega
     have hM1:(M:Int)<(M:Int)+1:=by omega
     have hMb:M≤300000:=by omega
     have hnb:n≤100000:=by have:=(hd.todo n (by simp)).1; omega
     obtain ⟨u,hu,cn'⟩:=own_cell (k:=M) hot (by omega)
     obtain rfl:Value.int .i64 (n:Nat)=u:=by
      rw [natVals_at (show (tl'++[n])[M]? = some n by rw [← htl']; simp)] at hu; injection hu
     have hnl:=(hd.todo n (by simp)).1
     have hnlI:(n:Int)<(gs.length:Int)+1:=by omega
     obtain ⟨bb,hbb⟩:∃ bb,nl[n]? = some bb:=⟨_,List.getElem?_eq_getElem (by have:=hd.len; omega)⟩
     have cb:=bool_cell hon hbb
     have hot':intOwn wr w.heap.size (.slice (some ⟨gt,0,none⟩) M ct2) M tl':=by
      have h1:=own_take hot (Nat.le_succ M) (by omega)
      have h2:(natVals (tl'++[n])).take M=natVals tl':=by rw [← natVals_take,← htl']; simp
      rw [h2] at h1
      exact h1
     have HD:=Lib.hid hd
     have HGK:=Lib.hid (And.intro hgk hgk2)
     have HB:=Lib.hid hb
     have HBX:=Lib.hid hbx
     have HON:=Lib.hid hon
     have HOT:=Lib.hid hot'
     have HTL:=Lib.hid htl'
     have HBB:=Lib.hid hbb
     clear hgk htl hd hgk2 hb hbx hon hot hot' htl' hu hbb hcapN
     by_cases hn0:n=0
     ·subst hn0
      go_wp2_with fail
      go_roundg (3*Cn.left nl+M)
      case measure=>have:=HGK.out.1; omega
      case rel=>exact ⟨nl,tl',M,rfl,HTL.out,Cn.dfs_skip HD.out (.inl rfl) HG.out.wf,by have:=HGK.out.1; have:=HGK.out.2; omega,⟨_,_,rfl⟩,HB.out,HBX.out,HON.out,HOT.out⟩
     ·obtain ⟨i,rfl⟩:∃ i,n=i+1:=⟨n-1,by omega⟩
      have hne:((i:Int)+1 == 0)=false:=by simp; omega
      cases bb with
      | true=>
       go_wp2_with fail
       go_roundg (3*Cn.left nl+M)
       case measure=>have:=HGK.out.1; omega
       case rel=>exact ⟨nl,tl',M,rfl,HTL.out,Cn.dfs_skip HD.out (.inr HBB.out) HG.out.wf,by have:=HGK.out.1; have:=HGK.out.2; omega,⟨_,_,rfl⟩,HB.out,HBX.out,HON.out,HOT.out⟩
      | false=>
       obtain ⟨g,hgi⟩:∃ g,gs[i]? = some g:=⟨_,List.getElem?_eq_getElem (by omega)⟩
       have cf:=own_unfrozen (k:=i+1) HON.out
       have hb3:Below w.heap.size w (wr.setCell ⟨W1.heap.size,i+1,none⟩ (.bool true)):=HB.out.setCell (by show w.heap.size≤W1.heap.size; exact HBW1.out.size) _
       have CP:=Lib.hid (parts_ga (HG.out.new hb3) hgi)
       have HB3:=Lib.hid hb3
       have HGI:=Lib.hid hgi
       clear hb3 hgi
       go_wp2_with fail
       refine CP.out.mono ?_
       rintro e w4 ⟨rfl,hb4⟩
       have hon3:(wr.setCell ⟨W1.heap.size,i+1,none⟩ (.bool true)).ownsRow w.heap.size 4 1 (.slice (some ⟨W1.heap.size,0,none⟩) (gs.length+1) (gs.length+1)) (gs.length+1) (boolVals (nl.set (i+1) true)):=by
        rw [boolVals_set]; exact own_set HON.out _
       have hot3:intOwn (wr.setCell ⟨W1.heap.size,i+1,none⟩ (.bool true)) w.heap.size (.slice (some ⟨gt,0,none⟩) M ct2) M tl':=own_far HOT.out _ (by
        rcases own_own_ne HOT.out HON.out (by decide) with h | h
        ·rw [h]; simp
        ·exact h)
       have hbx3:Blk (wr.setCell ⟨W1.heap.size,i+1,none⟩ (.bool true)) w.heap.size 39 #[.int .i64 0,.slice none 0 0]:=HBX.out.far (p:=⟨W1.heap.size,i+1,none⟩) (by show w.heap.size≠W1.heap.size; rw [HSW.out]; omega) _
       have HB4:=Lib.hid (HB3.out.trans (hb4.mono HB3.out.size))
       have HON4:=Lib.hid (own_chg (S:=fun _ _=>False) hon3 (Chg.of_new hb4) (fun _ _ _ _ hs=>hs))
       have HOT4:=Lib.hid (show intOwn w4 w.heap.size (.slice (some ⟨gt,0,none⟩) M ct2) M tl' from own_chg (S:=fun _ _=>False) hot3 (Chg.of_new hb4) (fun _ _ _ _ hs=>hs))
       have HBX4:=Lib.hid (hbx3.below hb4 hbx3.lt)
       have HM:=Lib.hid (Cn.dfs_mark HD.out HGI.out HG.out.wf)
       have HLS:=Lib.hid (Cn.left_set HBB.out)
       clear hb4 hon3 hot3 hbx3
       cases hin:g.inp with
       | true=>
        have HIN2:=Lib.hid hin
        clear cb cf cn'
        go_wp2_with fail
        go_roundg (3*Cn.left (nl.set (i+1) true)+M)
        case measure=>have:=HGK.out.1; have:=HLS.out; omega
        case rel=>
         have hm:=HM.out
         unfold Cn.kidsOf at hm
         rw [if_pos HIN2.out,List.append_nil] at hm
         exact ⟨nl.set (i+1) true,tl',M,rfl,HTL.out,hm,by have:=HGK.out.1; have:=HGK.out.2; have:=HLS.out; omega,⟨_,_,rfl⟩,HB4.out,HBX4.out,HON4.out,HOT4.out⟩
       | false=>
        obtain ⟨g1,g2,g3⟩:=HG.out.wf.ahead i g HGI.out hin
        obtain ⟨y1,hy1⟩:∃ y1:Nat,g.a/2=y1:=⟨_,rfl⟩
        obtain ⟨y2,hy2⟩:∃ y2:Nat,g.b/2=y2:=⟨_,rfl⟩
        have ha1:g.a≤1000000:=by omega
        have hb1':g.b≤1000000:=by omega
        have hd1:(g.a:Int)/2=(y1:Int):=by omega
        have hd2:(g.b:Int)/2=(y2:Int):=by omega
        have HIN2:=Lib.hid hin
        have HY:=Lib.hid (And.intro hy1 hy2)
        have hs4:=HB4.out.size
        clear cb cf cn' g1 g2 g3 hy1 hy2
        go_wp2_with (at_builtin; refine wpList_append_sl _ rfl (.tmp 84) (.tmp 89) _ rfl w.heap.size 3 i0 _ 1 8 Tryz.underlying40 HIN.out.1 HIN.out.2.1 HIN.out.2.2.1 HIN.out.2.2.2 rfl (by omega) _ M _ rfl (HOT4.out.alloc _) (w4.heap.size+1) (some ⟨w4.heap.size,0,none⟩) 2 2 [.int .i64 (y1:Int),.int .i64 (y2:Int)] rfl (reads_new rfl (by omega) rfl) (ints_one (by simp)) (le_maxLen (by omega)) (le_bytes (by omega) (by omega)) (by simp; omega) ?_; intro A5 c5 w5 hown5 hg5)
        have hg6:(w4.alloc (.cells #[.int .i64 (y1:Int),.int .i64 (y2:Int)] 3)).grownBy w5 (Value.slice (some ⟨gt,0,none⟩) M ct2).ownBlock:=hg5
        have HB5:=Lib.hid (own_grown_below HB4.out HOT4.out (Nat.le_refl _) hg6)
        have HBX5:=Lib.hid ((HBX4.out.alloc _).grown hg6 (own_blk_ne HOT4.out HBX4.out (by decide)).symm)
        have HON5:=Lib.hid (own_kept1 HON4.out HOT4.out (by decide) hg6)
        have HOT5:=Lib.hid (show intOwn w5 w.heap.size (.slice A5 (M+2) c5) (M+2) (tl'++[y1,y2]) by unfold intOwn; rw [natVals_append]; exact hown5)
        clear hown5 hg5 hg6
        go_wp2_with fail
        go_roundg (3*Cn.left (nl.set (i+1) true)+(M+2))
        case measure=>have:=HGK.out.1; have:=HLS.out; omega
        case rel=>
         have hm:=HM.out
         unfold Cn.kidsOf at hm
         rw [if_neg (by rw [HIN2.out]; simp),HY.out.1,HY.out.2] at hm
         exact ⟨nl.set (i+1) true,tl'++[y1,y2],M+2,rfl,by simp [HTL.out],hm,by have:=HGK.out.1; have:=HGK.out.2; have:=HLS.out; omega,⟨_,_,rfl⟩,HB5.out,HBX5.out,HON5.out,HOT5.out⟩
end Go.Proofs.YthkhfbofhdfdoaaGreatDoor
