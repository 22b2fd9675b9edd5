/- Plain laws and walks for the law WordSums; no condition. -/
import Derived.WalkKit
import Ieee.Arith
import Derived.Lib.SlicesCompact
namespace Go.Proofs.YthkhfbofhdfdoaaGreatDoor
def lv (A:Nat→Int) (n:Int):Int:=if n<0 then -A n.natAbs else A n.natAbs
def OkA (A:Nat→Int):Prop:=∀ v,A v = -1∨A v=0∨A v=1
def Stable (L:List (List Int)) (A:Nat→Int):Prop:=∀ x∈L,(∃ n∈x,lv A n=1)∨∃ n∈x,∃ m∈x,n≠m∧lv A n=0∧lv A m=0
def Ref (L:List (List Int)) (c:List Int):Prop:=∀ A,OkA A→Stable L A→∃ n∈c,lv A n ≠ -1
def Imp (L:List (List Int)) (c:List Int) (n:Int):Prop:=∀ A,OkA A→Stable L A→(∀ m∈c,lv A m = -1)→lv A n=1
def Lit (V:Nat) (n:Int):Prop:=n≠0∧n.natAbs≤V
section
variable {A:Nat→Int} {n m a:Int} {L L':List (List Int)} {c l:List Int} {V:Nat}
theorem lv_neg (hn:n≠0):lv A (-n) = -lv A n:=by
 unfold lv
 rw [Int.natAbs_neg]
 by_cases h:n<0
 ·rw [if_neg (by omega),if_pos h]; omega
 ·rw [if_pos (by omega),if_neg h]
theorem lv_ok (h:OkA A) (n:Int):lv A n = -1∨lv A n=0∨lv A n=1:=by
 unfold lv
 have:=h n.natAbs
 split <;> omega
theorem Lit.neg (h:Lit V n):Lit V (-n):=⟨by have:=h.1; omega,by rw [Int.natAbs_neg]; exact h.2⟩
theorem Stable.sub (h:Stable L' A) (hs:∀ x∈L,x∈L'):Stable L A:=fun x hx=>h x (hs x hx)
theorem Ref.mono (h:Ref L c) (hs:∀ x∈L,x∈L'):Ref L' c:=fun A hA hS=>h A hA (hS.sub hs)
theorem Imp.mono (h:Imp L c n) (hs:∀ x∈L,x∈L'):Imp L' c n:=fun A hA hS=>h A hA (hS.sub hs)
theorem Ref.nil (h:Ref L []):Ref L c:=fun A hA hS=>by obtain ⟨n,hn,_⟩:=h A hA hS; cases hn
theorem Imp.nil (h:Imp L [] n):Imp L c n:=fun A hA hS _=>h A hA hS (fun _ h=>by cases h)
theorem imp_self (hm:m∈c) (h0:m≠0):Imp L c (-m):=fun A _ _ hc=>by rw [lv_neg h0,hc m hm]; rfl
theorem ref_false (h:∀ A,OkA A→Stable L A→(∀ m∈c,lv A m = -1)→False):Ref L c:=fun A hA hS=>by
 by_cases hc:∃ n∈c,lv A n ≠ -1
 ·exact hc
 ·exact absurd (h A hA hS fun m hm=>by
   by_cases he:lv A m = -1
   ·exact he
   ·exact absurd ⟨m,hm,he⟩ hc) id
theorem not_ref (hA:OkA A) (hS:Stable L A) (hc:∀ m∈c,lv A m = -1):¬ Ref L c:=fun h=>by
 obtain ⟨n,hn,hne⟩:=h A hA hS
 exact hne (hc n hn)
theorem ref_true (hn:n∈c) (h:Imp L c n):Ref L c:=ref_false fun A hA hS hc=>by
 have h1:=h A hA hS hc
 have h2:=hc n hn
 omega
theorem ref_conf (hl:l∈L) (h:∀ m∈l,m≠0∧Imp L c (-m)):Ref L c:=ref_false fun A hA hS hc=>by
 have key:∀ m∈l,lv A m = -1:=fun m hm=>by
  obtain ⟨h0,hi⟩:=h m hm
  have:=hi A hA hS hc
  rw [lv_neg h0] at this
  omega
 rcases hS l hl with ⟨n,hn,h1⟩ | ⟨n,hn,_,_,_,h1,_⟩
 ·have:=key n hn; omega
 ·have:=key n hn; omega
theorem imp_unit (hl:l∈L) (h:∀ m∈l,m≠a→m≠0∧Imp L c (-m)):Imp L c a:=fun A hA hS hc=>by
 have key:∀ m∈l,m≠a→lv A m = -1:=fun m hm hne=>by
  obtain ⟨h0,hi⟩:=h m hm hne
  have:=hi A hA hS hc
  rw [lv_neg h0] at this
  omega
 rcases hS l hl with ⟨n,hn,h1⟩ | ⟨n,hn,m,hm,hne,h1,h2⟩
 ·by_cases e:n=a
  ·subst e; exact h1
  ·have:=key n hn e; omega
 ·by_cases e:n=a
  ·have:=key m hm (fun e2=>hne (e.trans e2.symm)); omega
  ·have:=key n hn e; omega
end
def va (vs:List Int):Nat→Int:=fun v=>vs.getD v 0
def sg (a:Int):Int:=if a<0 then -1 else 1
section
variable {vs:List Int} {V:Nat} {a n:Int}
theorem va_set {v u:Nat} {x:Int} (hv:v<vs.length):va (vs.set v x) u=if u=v then x else va vs u:=by
 unfold va
 rw [List.getD_eq_getElem?_getD,List.getElem?_set,List.getD_eq_getElem?_getD]
 by_cases h:u=v
 ·subst h; simp [hv]
 ·rw [if_neg (fun e=>h e.symm),if_neg h]
theorem lv_set (hl:vs.length=V+1) (ha:Lit V a) (hn:n≠0):lv (va (vs.set a.natAbs (sg a))) n=if n=a then 1 else if n = -a then -1 else lv (va vs) n:=by
 have hlt:a.natAbs<vs.length:=by have:=ha.2; omega
 have h0:=ha.1
 unfold lv sg
 rw [va_set hlt]
 by_cases e1:n=a
 ·subst e1
  rw [if_pos rfl,if_pos rfl]
  by_cases hneg:n<0
  ·rw [if_pos hneg,if_pos hneg]; rfl
  ·rw [if_neg hneg,if_neg hneg]
 ·rw [if_neg e1]
  by_cases e2:n = -a
  ·subst e2
   rw [if_pos rfl,if_pos (Int.natAbs_neg a)]
   by_cases hneg:a<0
   ·rw [if_neg (by omega),if_pos hneg]
   ·rw [if_pos (by omega),if_neg hneg]
  ·have e3:¬ n.natAbs=a.natAbs:=fun e=>by omega
   rw [if_neg e2,if_neg e3]
theorem va_ok (h:∀ x∈vs,x = -1∨x=0∨x=1):OkA (va vs):=fun v=>by
 unfold va
 rw [List.getD_eq_getElem?_getD]
 cases e:vs[v]? with
 | none=>exact .inr (.inl rfl)
 | some x=>exact h x (List.mem_of_getElem? e)
end
def upd (wt:Int→List Nat) (n:Int) (l:List Nat):Int→List Nat:=fun m=>if m=n then l else wt m
theorem upd_same (wt:Int→List Nat) (n:Int) (l:List Nat):upd wt n l n=l:=by simp [upd]
theorem upd_other {wt:Int→List Nat} {n m:Int} {l:List Nat} (h:m≠n):upd wt n l m=wt m:=by simp [upd,h]
structure St where
 xs:List (List Int)
 wt:Int→List Nat
 vs:List Int
 tr:List Int
structure SI (V:Nat) (L:List (List Int)) (s:St):Prop where
 vlen:s.vs.length=V+1
 vok:∀ x∈s.vs,x = -1∨x=0∨x=1
 trv:∀ n∈s.tr,Lit V n∧lv (va s.vs) n=1
 trs:∀ n,Lit V n→lv (va s.vs) n=1→n∈s.tr
 trn:s.tr.Nodup
 xlen:s.xs.length=L.length
 xmem:∀ (k:Nat) x l,s.xs[k]? = some x→L[k]? = some l→∀ n,n∈x↔n∈l
 xnd:∀ x∈s.xs,x.Nodup
 xlit:∀ x∈s.xs,∀ n∈x,Lit V n
 wnd:∀ n,(s.wt n).Nodup
 wiff:∀ n k,k∈s.wt n↔∃ a b r,s.xs[k]? = some (a::b::r)∧(a=n∨b=n)
def Wi (xs:List (List Int)) (F T:List Int):Prop:=∀ (k:Nat) a b r,xs[k]? = some (a::b::r)→(-a∈F→b∈T)∧(-b∈F→a∈T)
def Kp (kept:List Nat) (xs:List (List Int)) (n:Int) (T:List Int):Prop:=∀ k∈kept,∀ a b r,xs[k]? = some (a::b::r)→(a=n→b∈T)∧(b=n→a∈T)
def Un (xs:List (List Int)) (T:List Int):Prop:=∀ (k:Nat) a,xs[k]? = some [a]→a∈T
def Same1 (xs xs':List (List Int)):Prop:=∀ (k:Nat) x,xs'[k]? = some x→x.length<2→xs[k]? = some x
section
variable {V:Nat} {L:List (List Int)} {s:St} {c:List Int} {n m a b:Int} {r:List Int} {k:Nat}
theorem Same1.refl (xs:List (List Int)):Same1 xs xs:=fun _ _ h _=>h
theorem Same1.trans {xs ys zs:List (List Int)} (h:Same1 xs ys) (g:Same1 ys zs):Same1 xs zs:=fun k x hx hl=>h k x (g k x hx hl) hl
theorem Same1.set_ {xs:List (List Int)} {x:List Int} (hx:2≤x.length):Same1 xs (xs.set k x):=fun j y hy hl=>by
 rw [List.getElem?_set] at hy
 split at hy
 ·split at hy
  ·injection hy with hy; subst hy; omega
  ·cases hy
 ·exact hy
theorem Un.same {xs ys:List (List Int)} {T:List Int} (h:Un xs T) (g:Same1 xs ys):Un ys T:=fun k a hk=>h k a (g k _ hk (by simp))
theorem Wi.mono {xs:List (List Int)} {F T T':List Int} (h:Wi xs F T) (ht:∀ x∈T,x∈T'):Wi xs F T':=fun k a b r hk=>⟨fun hf=>ht _ ((h k a b r hk).1 hf),fun hf=>ht _ ((h k a b r hk).2 hf)⟩
theorem Wi.set_ {xs:List (List Int)} {F T:List Int} {x:List Int} (h:Wi xs F T) (hx:∀ a b r,x=a::b::r→(-a∈F→b∈T)∧(-b∈F→a∈T)):Wi (xs.set k x) F T:=fun j a b r hj=>by
 rw [List.getElem?_set] at hj
 split at hj
 ·split at hj
  ·injection hj with hj; exact hx a b r hj
  ·cases hj
 ·exact h j a b r hj
theorem Kp.set_ {kept:List Nat} {xs:List (List Int)} {T:List Int} {x:List Int} (h:Kp kept xs n T) (hk:k ∉ kept):Kp kept (xs.set k x) n T:=fun j hj a b r hx=>by
 rw [List.getElem?_set,if_neg (fun e=>hk (by rw [e]; exact hj))] at hx
 exact h j hj a b r hx
theorem Kp.mono {kept:List Nat} {xs:List (List Int)} {T T':List Int} (h:Kp kept xs n T) (ht:∀ x∈T,x∈T'):Kp kept xs n T':=fun k hk a b r hx=>⟨fun e=>ht _ ((h k hk a b r hx).1 e),fun e=>ht _ ((h k hk a b r hx).2 e)⟩
theorem Kp.snoc {kept:List Nat} {xs:List (List Int)} {T:List Int} (h:Kp kept xs n T) (hx:xs[k]? = some (a::n::r)) (ha:a∈T) (hne:a≠n):Kp (kept++[k]) xs n T:=fun j hj a' b' r' hx'=>by
 rcases List.mem_append.1 hj with hj | hj
 ·exact h j hj a' b' r' hx'
 ·obtain rfl:j=k:=by simpa using hj
  rw [hx] at hx'
  injection hx' with hx'
  injection hx' with e1 hx'
  injection hx' with e2 _
  subst e1; subst e2
  exact ⟨fun e=>absurd e hne,fun _=>ha⟩
theorem SI.neg_val (h:SI V L s) (hn:Lit V n) (ht : -n∈s.tr):lv (va s.vs) n = -1:=by
 have:=(h.trv _ ht).2
 rw [lv_neg hn.1] at this
 omega
theorem SI.val_neg (h:SI V L s) (hn:Lit V n) (hv:lv (va s.vs) n = -1) : -n∈s.tr:=h.trs _ hn.neg (by rw [lv_neg hn.1,hv]; rfl)
theorem SI.ok (h:SI V L s) (n:Int):lv (va s.vs) n = -1∨lv (va s.vs) n=0∨lv (va s.vs) n=1:=lv_ok (va_ok h.vok) n
theorem SI.clause (h:SI V L s) {x:List Int} (hx:s.xs[k]? = some x):∃ l,L[k]? = some l∧l∈L∧∀ n,n∈x↔n∈l:=by
 have hk:k<L.length:=by have:=(List.getElem?_eq_some_iff.1 hx).1; have:=h.xlen; omega
 have hl:L[k]? = some L[k]:=List.getElem?_eq_getElem hk
 exact ⟨_,hl,List.mem_of_getElem? hl,h.xmem k x _ hx hl⟩
theorem SI.set_ (h:SI V L s) (ha:Lit V a) (hz:lv (va s.vs) a=0):SI V L { s with vs:=s.vs.set a.natAbs (sg a),tr:=s.tr++[a] }:=by
 have hset:∀ n,n≠0→lv (va (s.vs.set a.natAbs (sg a))) n=if n=a then 1 else if n = -a then -1 else lv (va s.vs) n:=fun n hn=>lv_set h.vlen ha hn
 refine { h with vlen:=by simpa using h.vlen,vok:=fun x hx=>?_,trv:=fun n hn=>?_,trs:=fun n hn hv=>?_,trn:=?_ }
 ·rcases List.mem_or_eq_of_mem_set hx with hx | hx
  ·exact h.vok x hx
  ·subst hx; unfold sg; split
   ·exact .inl rfl
   ·exact .inr (.inr rfl)
 ·rcases List.mem_append.1 hn with hn | hn
  ·obtain ⟨h1,h2⟩:=h.trv n hn
   refine ⟨h1,?_⟩
   show lv (va (s.vs.set a.natAbs (sg a))) n=1
   rw [hset n h1.1]
   by_cases e:n=a
   ·rw [if_pos e]
   ·rw [if_neg e,if_neg (fun e2=>?_),h2]
    subst e2
    rw [lv_neg ha.1,hz] at h2
    omega
  ·obtain rfl:n=a:=by simpa using hn
   exact ⟨ha,by show lv (va (s.vs.set n.natAbs (sg n))) n=1; rw [hset n ha.1,if_pos rfl]⟩
 ·have hv:lv (va (s.vs.set a.natAbs (sg a))) n=1:=hv
  rw [hset n hn.1] at hv
  by_cases e:n=a
  ·subst e; simp
  ·rw [if_neg e] at hv
   by_cases e2:n = -a
   ·rw [if_pos e2] at hv; omega
   ·rw [if_neg e2] at hv
    exact List.mem_append_left _ (h.trs n hn hv)
 ·refine List.nodup_append.2 ⟨h.trn,by simp,fun x hx y hy=>?_⟩
  obtain rfl:y=a:=by simpa using hy
  rintro rfl
  have:=(h.trv x hx).2
  omega
theorem SI.swap (h:SI V L s) (hx:s.xs[k]? = some (a::b::r)):SI V L { s with xs:=s.xs.set k (b::a::r) }:=by
 have hmem:(a::b::r)∈s.xs:=List.mem_of_getElem? hx
 have hp:(a::b::r).Perm (b::a::r):=List.Perm.swap b a r
 refine { h with xlen:=by simpa using h.xlen,xmem:=fun j x l hj hl n=>?_,xnd:=fun x hm=>?_,xlit:=fun x hm n hn=>?_,wiff:=fun n j=>?_ }
 ·replace hj:(s.xs.set k (b::a::r))[j]? = some x:=hj
  rw [List.getElem?_set] at hj
  split at hj
  ·rename_i e; subst e
   split at hj
   ·injection hj with hj; subst hj
    rw [← hp.mem_iff]; exact h.xmem _ _ l hx hl n
   ·cases hj
  ·exact h.xmem j x l hj hl n
 ·rcases List.mem_or_eq_of_mem_set hm with hm | hm
  ·exact h.xnd x hm
  ·subst hm; exact (h.xnd _ hmem).perm hp
 ·rcases List.mem_or_eq_of_mem_set hm with hm | hm
  ·exact h.xlit x hm n hn
  ·subst hm; exact h.xlit _ hmem n (hp.mem_iff.2 hn)
 ·rw [h.wiff n j]
  show _↔∃ a' b' r',(s.xs.set k (b::a::r))[j]? = some (a'::b'::r')∧_
  rw [List.getElem?_set]
  have hlt:k<s.xs.length:=(List.getElem?_eq_some_iff.1 hx).1
  by_cases e:k=j
  ·subst e
   rw [if_pos rfl,if_pos hlt,hx]
   constructor
   ·rintro ⟨a',b',r',e,hh⟩
    injection e with e; injection e with e1 e; injection e with e2 e3
    subst e1; subst e2
    exact ⟨b,a,r,rfl,hh.symm⟩
   ·rintro ⟨a',b',r',e,hh⟩
    injection e with e; injection e with e1 e; injection e with e2 e3
    subst e1; subst e2
    exact ⟨a,b,r,rfl,hh.symm⟩
  ·rw [if_neg e]
theorem Wi.swap {xs:List (List Int)} {F T:List Int} (h:Wi xs F T) (hx:xs[k]? = some (a::b::r)):Wi (xs.set k (b::a::r)) F T:=
 h.set_ fun a' b' r' e=>by
  injection e with e1 e; injection e with e2 e3
  subst e1; subst e2
  exact (h k _ _ _ hx).symm
theorem perm_move {j:Nat} (hj:r[j]? = some m):(a::n::r).Perm (a::m::r.set j n):=by
 refine List.Perm.cons a ?_
 obtain ⟨hlt,e⟩:=List.getElem?_eq_some_iff.1 hj
 have e1:r=r.take j++m::r.drop (j+1):=by rw [← e,List.getElem_cons_drop,List.take_append_drop]
 have e2:r.set j n=r.take j++n::r.drop (j+1):=by rw [List.set_eq_take_append_cons_drop,if_pos hlt]
 rw [e2]
 conv=>lhs; rw [e1]
 refine (List.Perm.cons n List.perm_middle).trans ?_
 refine (List.Perm.swap m n _).trans ?_
 exact List.Perm.cons m List.perm_middle.symm
theorem SI.move {j:Nat} {p q:List Nat} (h:SI V L s) (hx:s.xs[k]? = some (a::n::r)) (hj:r[j]? = some m) (hw:s.wt n=p++k::q) :
  SI V L { s with xs:=s.xs.set k (a::m::r.set j n),wt:=upd (upd s.wt n (p++q)) m (s.wt m++[k]) }:=by
 have hmem:(a::n::r)∈s.xs:=List.mem_of_getElem? hx
 have hp:(a::n::r).Perm (a::m::r.set j n):=perm_move hj
 have hlt:k<s.xs.length:=(List.getElem?_eq_some_iff.1 hx).1
 have hnd:=h.xnd _ hmem
 have hmr:m∈r:=List.mem_of_getElem? hj
 have hmn:m≠n:=fun e=>by
  subst e
  exact (List.nodup_cons.1 (List.nodup_cons.1 hnd).2).1 hmr
 have hma:m≠a:=fun e=>by
  subst e
  exact (List.nodup_cons.1 hnd).1 (List.mem_cons_of_mem _ hmr)
 have han:a≠n:=fun e=>by
  subst e
  exact (List.nodup_cons.1 hnd).1 (List.mem_cons_self ..)
 have hkm:k ∉ s.wt m:=fun hk=>by
  obtain ⟨a',b',r',e,hh⟩:=(h.wiff m k).1 hk
  rw [hx] at e
  injection e with e; injection e with e1 e; injection e with e2 e3
  subst e1; subst e2
  rcases hh with hh | hh
  ·exact hma hh.symm
  ·exact hmn hh.symm
 have hwn:=h.wnd n
 rw [hw] at hwn
 have hwn':(k::(p++q)).Nodup:=hwn.perm List.perm_middle
 have hkpq:k ∉ p++q:=(List.nodup_cons.1 hwn').1
 refine { h with xlen:=by simpa using h.xlen,xmem:=fun i x l hi hl y=>?_,xnd:=fun x hm=>?_,xlit:=fun x hm y hy=>?_,wnd:=fun y=>?_,wiff:=fun y i=>?_ }
 ·replace hi:(s.xs.set k (a::m::r.set j n))[i]? = some x:=hi
  rw [List.getElem?_set] at hi
  by_cases e:k=i
  ·subst e
   rw [if_pos rfl,if_pos hlt] at hi
   injection hi with hi; subst hi
   rw [← hp.mem_iff]; exact h.xmem _ _ l hx hl y
  ·rw [if_neg e] at hi; exact h.xmem i x l hi hl y
 ·rcases List.mem_or_eq_of_mem_set hm with hm | hm
  ·exact h.xnd x hm
  ·subst hm; exact (h.xnd _ hmem).perm hp
 ·rcases List.mem_or_eq_of_mem_set hm with hm | hm
  ·exact h.xlit x hm y hy
  ·subst hm; exact h.xlit _ hmem y (hp.mem_iff.2 hy)
 ·show (upd (upd s.wt n (p++q)) m (s.wt m++[k]) y).Nodup
  by_cases e:y=m
  ·subst e
   rw [upd_same]
   refine List.nodup_append.2 ⟨h.wnd y,by simp,fun x hxy z hz=>?_⟩
   obtain rfl:z=k:=by simpa using hz
   rintro rfl
   exact hkm hxy
  ·rw [upd_other e]
   by_cases e2:y=n
   ·subst e2; rw [upd_same]; exact (List.nodup_cons.1 hwn').2
   ·rw [upd_other e2]; exact h.wnd y
 ·show i∈upd (upd s.wt n (p++q)) m (s.wt m++[k]) y↔∃ a' b' r',(s.xs.set k (a::m::r.set j n))[i]? = some (a'::b'::r')∧_
  rw [List.getElem?_set]
  by_cases ei:k=i
  ·subst ei
   rw [if_pos rfl,if_pos hlt]
   by_cases e:y=m
   ·subst e
    rw [upd_same]
    exact ⟨fun _=>⟨a,y,_,rfl,.inr rfl⟩,fun _=>by simp⟩
   ·rw [upd_other e]
    by_cases e2:y=n
    ·subst e2
     rw [upd_same]
     refine ⟨fun hk=>absurd hk hkpq,?_⟩
     rintro ⟨a',b',r',e',hh⟩
     injection e' with e'; injection e' with e1 e'; injection e' with e3 e4
     subst e1; subst e3
     rcases hh with hh | hh
     ·exact absurd hh han
     ·exact absurd hh hmn
    ·rw [upd_other e2,h.wiff y k,hx]
     constructor
     ·rintro ⟨a',b',r',e',hh⟩
      injection e' with e'; injection e' with e1 e'; injection e' with e3 e4
      subst e1; subst e3
      rcases hh with hh | hh
      ·exact ⟨a,m,_,rfl,.inl hh⟩
      ·exact absurd hh.symm e2
     ·rintro ⟨a',b',r',e',hh⟩
      injection e' with e'; injection e' with e1 e'; injection e' with e3 e4
      subst e1; subst e3
      rcases hh with hh | hh
      ·exact ⟨a,n,_,rfl,.inl hh⟩
      ·exact absurd hh.symm e
  ·rw [if_neg ei]
   by_cases e:y=m
   ·subst e
    rw [upd_same,← h.wiff y i]
    simp only [List.mem_append,List.mem_singleton]
    exact ⟨fun hh=>hh.resolve_right (fun e=>ei e.symm),.inl⟩
   ·rw [upd_other e]
    by_cases e2:y=n
    ·subst e2
     rw [upd_same,← h.wiff y i,hw]
     simp only [List.mem_append,List.mem_cons]
     constructor
     ·rintro (hh | hh)
      ·exact .inl hh
      ·exact .inr (.inr hh)
     ·rintro (hh | rfl | hh)
      ·exact .inl hh
      ·exact absurd rfl ei
      ·exact .inr hh
    ·rw [upd_other e2,h.wiff y i]
theorem Wi.move {xs:List (List Int)} {F T:List Int} {j:Nat} (h:Wi xs F T) (hx:xs[k]? = some (a::n::r)) (hn:n ∉ T) (hm : -m ∉ F):Wi (xs.set k (a::m::r.set j n)) F T:=
 h.set_ fun a' b' r' e=>by
  injection e with e1 e; injection e with e2 e3
  subst e1; subst e2
  exact ⟨fun hf=>absurd ((h k _ _ _ hx).1 hf) hn,fun hf=>absurd hf hm⟩
theorem stable_end (h:SI V L s) (hw:Wi s.xs s.tr s.tr) (hu:Un s.xs s.tr) (hne:∀ x∈s.xs,x≠[]):Stable L (va s.vs):=by
 intro l hl
 obtain ⟨k,hk,e⟩:=List.getElem_of_mem hl
 have hkx:k<s.xs.length:=by have:=h.xlen; omega
 have hx:s.xs[k]? = some s.xs[k]:=List.getElem?_eq_getElem hkx
 have hm:=h.xmem k _ l hx (by rw [List.getElem?_eq_getElem hk,e])
 have hxm:s.xs[k]∈s.xs:=List.mem_of_getElem? hx
 generalize s.xs[k]=x at hx hm hxm
 match x,hx,hm,hxm with
 | [],_,_,hxm=>exact absurd rfl (hne _ hxm)
 | [a],hx,hm,_=>
  have:=hu k a hx
  exact .inl ⟨a,(hm a).1 (by simp),(h.trv a this).2⟩
 | a::b::r,hx,hm,hxm=>
  have ha:=h.xlit _ hxm a (by simp)
  have hb:=h.xlit _ hxm b (by simp)
  have hab:a≠b:=fun e=>(List.nodup_cons.1 (h.xnd _ hxm)).1 (by simp [e])
  have hma:=(hm a).1 (by simp)
  have hmb:=(hm b).1 (by simp)
  obtain ⟨w1,w2⟩:=hw k a b r hx
  rcases h.ok a with ea | ea | ea
  ·exact .inl ⟨b,hmb,(h.trv b (w1 (h.val_neg ha ea))).2⟩
  ·rcases h.ok b with eb | eb | eb
   ·exact .inl ⟨a,hma,(h.trv a (w2 (h.val_neg hb eb))).2⟩
   ·exact .inr ⟨a,hma,b,hmb,hab,ea,eb⟩
   ·exact .inl ⟨b,hmb,eb⟩
  ·exact .inl ⟨a,hma,ea⟩
theorem SI.tr_le (h:SI V L s):s.tr.length≤V:=by
 have h1:(s.tr.map Int.natAbs).Nodup:=by
  have key:∀ l:List Int,l.Nodup→(∀ n∈l,Lit V n∧lv (va s.vs) n=1)→(l.map Int.natAbs).Nodup:=by
   intro l
   induction l with
   | nil=>intro _ _; simp
   | cons x t ih=>
    intro hnd hv
    rw [List.map_cons,List.nodup_cons]
    obtain ⟨n1,n2⟩:=List.nodup_cons.1 hnd
    refine ⟨fun hm=>?_,ih n2 fun y hy=>hv y (List.mem_cons_of_mem _ hy)⟩
    obtain ⟨y,hy,e⟩:=List.mem_map.1 hm
    obtain ⟨hx0,hx1⟩:=hv x (by simp)
    obtain ⟨hy0,hy1⟩:=hv y (List.mem_cons_of_mem _ hy)
    have:y=x∨y = -x:=by omega
    rcases this with e | e
    ·subst e; exact n1 hy
    ·subst e; rw [lv_neg hx0.1] at hy1; omega
  exact key _ h.trn h.trv
 have h2:s.tr.map Int.natAbs ⊆ (List.range V).map (·+1):=fun v hv=>by
  obtain ⟨n,hn,e⟩:=List.mem_map.1 hv
  obtain ⟨⟨h0,h1⟩,_⟩:=h.trv n hn
  refine List.mem_map.2 ⟨v-1,List.mem_range.2 (by omega),by omega⟩
 have:=h1.length_le_of_subset h2
 simpa using this
end
end Go.Proofs.YthkhfbofhdfdoaaGreatDoor
namespace Go.Proofs.YthkhfbofhdfdoaaGreatDoor
structure SpJ (V:Nat) (L:List (List Int)) (c tr0:List Int) (s0 s:St) (hd:Nat) (n:Int) (kept rest:List Nat):Prop where
 si:SI V L s
 wtn:s.wt n=kept++rest
 wi:Wi s.xs (s.tr.take hd) s.tr
 kp:Kp kept s.xs n s.tr
 w0:Wi s.xs tr0 tr0
 same:Same1 s0.xs s.xs
 xl:s.xs.length=s0.xs.length
 pre:∃ new,s.tr=s0.tr++new
 t0:∃ new,s0.tr=tr0++new
 imp:∀ m∈s.tr,Imp L c m
 at_:s.tr[hd]? = some (-n)
structure SpI (V:Nat) (L:List (List Int)) (c tr0:List Int) (s0 s:St) (hd:Nat):Prop where
 si:SI V L s
 wi:Wi s.xs (s.tr.take hd) s.tr
 w0:Wi s.xs tr0 tr0
 same:Same1 s0.xs s.xs
 xl:s.xs.length=s0.xs.length
 pre:∃ new,s.tr=s0.tr++new
 t0:∃ new,s0.tr=tr0++new
 imp:∀ m∈s.tr,Imp L c m
section
variable {V:Nat} {L:List (List Int)} {c tr0:List Int} {s0 s:St} {hd:Nat} {n:Int} {kept rest:List Nat} {k:Nat} {a b m:Int} {r:List Int}
theorem take_app {l:List Int} {x:Int} (h:hd≤l.length):(l++[x]).take hd=l.take hd:=by rw [List.take_append,show hd-l.length=0 by omega,List.take_zero,List.append_nil]
theorem neg_neg_ (n:Int) : - -n=n:=Int.neg_neg n
theorem SpJ.lit (h:SpJ V L c tr0 s0 s hd n kept rest):Lit V n:=by
 have:=(h.si.trv _ (List.mem_of_getElem? h.at_)).1.neg
 rwa [neg_neg_] at this
theorem SpJ.mem (h:SpJ V L c tr0 s0 s hd n kept rest) : -n∈s.tr:=List.mem_of_getElem? h.at_
theorem SpJ.val (h:SpJ V L c tr0 s0 s hd n kept rest):lv (va s.vs) n = -1:=h.si.neg_val h.lit h.mem
theorem SI.not_both (h:SI V L s) (hn:Lit V n) (h1:n∈s.tr) : -n ∉ s.tr:=fun h2=>by
 have e1:=(h.trv _ h1).2
 have e2:=(h.trv _ h2).2
 rw [lv_neg hn.1] at e2
 omega
theorem SpJ.notin (h:SpJ V L c tr0 s0 s hd n kept rest):n ∉ s.tr:=fun h1=>h.si.not_both h.lit h1 h.mem
theorem SpJ.sub0 (h:SpJ V L c tr0 s0 s hd n kept rest) {x:Int} (hx:x∈tr0):x∈s.tr:=by
 obtain ⟨n1,e1⟩:=h.pre
 obtain ⟨n2,e2⟩:=h.t0
 rw [e1,e2]
 exact List.mem_append_left _ (List.mem_append_left _ hx)
theorem SpJ.knot (h:SpJ V L c tr0 s0 s hd n kept (k::rest)):k ∉ kept:=fun hk=>by
 have:=h.si.wnd n
 rw [h.wtn] at this
 exact (List.nodup_append.1 this).2.2 k hk k (by simp) rfl
theorem SpJ.clause (h:SpJ V L c tr0 s0 s hd n kept (k::rest)):∃ a b r,s.xs[k]? = some (a::b::r)∧(a=n∨b=n):=
 (h.si.wiff n k).1 (by rw [h.wtn]; simp)
theorem SpI.start (h:SpI V L c tr0 s0 s hd) (hn:s.tr[hd]? = some (-n)):SpJ V L c tr0 s0 s hd n [] (s.wt n):=
 ⟨h.si,rfl,h.wi,fun _ hk=>(by cases hk),h.w0,h.same,h.xl,h.pre,h.t0,h.imp,hn⟩
theorem SpJ.stop (h:SpJ V L c tr0 s0 s hd n kept []):SpI V L c tr0 s0 s (hd+1):=by
 refine ⟨h.si,fun k a b r hx=>?_,h.w0,h.same,h.xl,h.pre,h.t0,h.imp⟩
 have hlt:=(List.getElem?_eq_some_iff.1 h.at_).1
 have e:s.tr.take (hd+1)=s.tr.take hd++[-n]:=by
  rw [List.take_add_one,h.at_]; rfl
 have hin:∀ x,x∈s.tr.take (hd+1)→x∈s.tr.take hd∨x = -n:=fun x hx=>by
  rw [e] at hx
  simpa using hx
 have hw:=h.wtn
 rw [List.append_nil] at hw
 refine ⟨fun hf=>?_,fun hf=>?_⟩
 ·rcases hin _ hf with hf | hf
  ·exact (h.wi k a b r hx).1 hf
  ·have ea:a=n:=by omega
   have hk:k∈kept:=by rw [← hw]; exact (h.si.wiff n k).2 ⟨a,b,r,hx,.inl ea⟩
   exact (h.kp k hk a b r hx).1 ea
 ·rcases hin _ hf with hf | hf
  ·exact (h.wi k a b r hx).2 hf
  ·have ea:b=n:=by omega
   have hk:k∈kept:=by rw [← hw]; exact (h.si.wiff n k).2 ⟨a,b,r,hx,.inr ea⟩
   exact (h.kp k hk a b r hx).2 ea
theorem SpJ.swap (h:SpJ V L c tr0 s0 s hd n kept (k::rest)) (hx:s.xs[k]? = some (a::b::r)):SpJ V L c tr0 s0 { s with xs:=s.xs.set k (b::a::r) } hd n kept (k::rest):=
 ⟨h.si.swap hx,h.wtn,h.wi.swap hx,h.kp.set_ h.knot,h.w0.swap hx,h.same.trans (Same1.set_ (by simp)),by simpa using h.xl,h.pre,h.t0,h.imp,h.at_⟩
theorem SpJ.hold (h:SpJ V L c tr0 s0 s hd n kept (k::rest)) (hx:s.xs[k]? = some (a::n::r)) (ha:lv (va s.vs) a=1):SpJ V L c tr0 s0 s hd n (kept++[k]) rest:=by
 have hla:Lit V a:=h.si.xlit _ (List.mem_of_getElem? hx) a (by simp)
 have hne:a≠n:=fun e=>by subst e; have:=h.val; omega
 exact ⟨h.si,by rw [h.wtn]; simp,h.wi,h.kp.snoc hx (h.si.trs a hla ha) hne,h.w0,h.same,h.xl,h.pre,h.t0,h.imp,h.at_⟩
theorem SpJ.move {j:Nat} (h:SpJ V L c tr0 s0 s hd n kept (k::rest)) (hx:s.xs[k]? = some (a::n::r)) (hj:r[j]? = some m) (hm:lv (va s.vs) m ≠ -1) :
  SpJ V L c tr0 s0 { s with xs:=s.xs.set k (a::m::r.set j n),wt:=upd (upd s.wt n (kept++rest)) m (s.wt m++[k]) } hd n kept rest:=by
 have hmr:m∈r:=List.mem_of_getElem? hj
 have hlm:Lit V m:=h.si.xlit _ (List.mem_of_getElem? hx) m (by simp [hmr])
 have hmn:n≠m:=fun e=>by subst e; exact hm h.val
 have hmt : -m ∉ s.tr:=fun ht=>hm (h.si.neg_val hlm ht)
 refine ⟨h.si.move hx hj h.wtn,?_,h.wi.move hx h.notin (fun ht=>hmt (List.mem_of_mem_take ht)),h.kp.set_ h.knot,h.w0.move hx (fun ht=>h.notin (h.sub0 ht)) (fun ht=>hmt (h.sub0 ht)),
  h.same.trans (Same1.set_ (by simp)),by simpa using h.xl,h.pre,h.t0,h.imp,h.at_⟩
 show upd (upd s.wt n (kept++rest)) m (s.wt m++[k]) n=_
 rw [upd_other hmn,upd_same]
theorem SpJ.rest_false (h:SpJ V L c tr0 s0 s hd n kept (k::rest)) (hx:s.xs[k]? = some (a::n::r)) (hr:∀ y∈r,lv (va s.vs) y = -1) {y:Int} (hy:y∈n::r):y≠0∧Imp L c (-y):=by
 have hly:Lit V y:=h.si.xlit _ (List.mem_of_getElem? hx) y (List.mem_cons_of_mem _ hy)
 have hv:lv (va s.vs) y = -1:=by
  rcases List.mem_cons.1 hy with e | hy
  ·rw [e]; exact h.val
  ·exact hr y hy
 exact ⟨hly.1,h.imp _ (h.si.val_neg hly hv)⟩
theorem SpJ.conflict (h:SpJ V L c tr0 s0 s hd n kept (k::rest)) (hx:s.xs[k]? = some (a::n::r)) (hr:∀ y∈r,lv (va s.vs) y = -1) (ha:lv (va s.vs) a = -1):Ref L c:=by
 obtain ⟨l,_,hl,hm⟩:=h.si.clause hx
 refine ref_conf hl fun y hy=>?_
 rcases List.mem_cons.1 ((hm y).2 hy) with e | hy'
 ·subst e
  have hla:Lit V y:=h.si.xlit _ (List.mem_of_getElem? hx) y (by simp)
  exact ⟨hla.1,h.imp _ (h.si.val_neg hla ha)⟩
 ·exact h.rest_false hx hr hy'
theorem SpJ.unit (h:SpJ V L c tr0 s0 s hd n kept (k::rest)) (hx:s.xs[k]? = some (a::n::r)) (hr:∀ y∈r,lv (va s.vs) y = -1) (ha:lv (va s.vs) a=0) :
  Lit V a∧SpJ V L c tr0 s0 { s with vs:=s.vs.set a.natAbs (sg a),tr:=s.tr++[a] } hd n (kept++[k]) rest:=by
 have hla:Lit V a:=h.si.xlit _ (List.mem_of_getElem? hx) a (by simp)
 have hlt:=(List.getElem?_eq_some_iff.1 h.at_).1
 have hne:a≠n:=fun e=>by subst e; have:=h.val; omega
 obtain ⟨l,_,hl,hm⟩:=h.si.clause hx
 have hi:Imp L c a:=imp_unit hl fun y hy hya=>by
  rcases List.mem_cons.1 ((hm y).2 hy) with e | hy'
  ·exact absurd e hya
  ·exact h.rest_false hx hr hy'
 refine ⟨hla,h.si.set_ hla ha,by rw [show ({ s with vs:=s.vs.set a.natAbs (sg a),tr:=s.tr++[a] }:St).wt n=s.wt n from rfl,h.wtn]; simp,?_,?_,h.w0,h.same,h.xl,?_,h.t0,?_,?_⟩
 ·show Wi s.xs ((s.tr++[a]).take hd) (s.tr++[a])
  rw [take_app (by omega)]
  exact h.wi.mono fun x hx=>List.mem_append_left _ hx
 ·exact (h.kp.mono fun x hx=>List.mem_append_left _ hx).snoc hx (by simp) hne
 ·obtain ⟨new,e⟩:=h.pre
  exact ⟨new++[a],by show s.tr++[a]=_; rw [e,List.append_assoc]⟩
 ·intro y hy
  rcases List.mem_append.1 hy with hy | hy
  ·exact h.imp y hy
  ·obtain rfl:y=a:=by simpa using hy
   exact hi
 ·show (s.tr++[a])[hd]? = _
  rw [List.getElem?_append_left hlt]; exact h.at_
theorem SpI.all (h:SpI V L c tr0 s0 s hd) (hh:s.tr.length≤hd):Wi s.xs s.tr s.tr:=by
 have:=h.wi
 rwa [List.take_of_length_le hh] at this
end
end Go.Proofs.YthkhfbofhdfdoaaGreatDoor
namespace Go.Proofs.YthkhfbofhdfdoaaGreatDoor.slv
structure SS where
 xs:List (List Int)
 wt:Nat→List Nat
 vs:List Int
 lv:List Int
 rs:List Int
 tr:List Int
 lm:List Nat
 hd:Nat
 sc:List Nat
 gr:Nat
 ph:List Bool
 hp:List Nat
 pl:List Int
 pf:List (List Int)
 dead:Bool
def ix (n:Int):Nat:=if n<0 then 2*n.natAbs+1 else 2*n.natAbs
def ofM (vs:List Int) (n:Int):Option Int:=
 match vs[n.natAbs]? with
 | some x=>if x = -1∨x=0∨x=1 then some (if n<0 then -x else x) else none
 | none=>none
def setS (s:SS) (n by_:Int):SS:={ s with vs:=s.vs.set n.natAbs (sg n),lv:=s.lv.set n.natAbs (s.lm.length:Nat),rs:=s.rs.set n.natAbs by_,ph:=s.ph.set n.natAbs (decide (0<n)),tr:=s.tr++[n] }
end Go.Proofs.YthkhfbofhdfdoaaGreatDoor.slv
namespace Go.Proofs.YthkhfbofhdfdoaaGreatDoor.slv
def fadd (a b:Nat):Option Nat:=Ieee.double.add a b
def fmul (a b:Nat):Option Nat:=Ieee.double.mul a b
def flt (a b:Nat):Bool:=Ieee.double.order a b == some .lt
def fgt (a b:Nat):Bool:=Ieee.double.order a b == some .gt
def fle (a b:Nat):Bool:=Ieee.double.order a b == some .lt||Ieee.double.order a b == some .eq
def fBig:Nat:=6103021453049119613
def fTiny:Nat:=3110860544497550640
def fGrow:Nat:=4607407598781385933
def setM (V:Nat) (s:SS) (n by_:Int):Option SS:=
 if 1≤n.natAbs∧n.natAbs≤V∧s.tr.length≤V∧s.lm.length≤V then some (setS s n by_) else none
def stopH (s:SS) (i v:Nat):SS:={ s with hp:=s.hp.set i v,pl:=s.pl.set v (i:Int) }
def upL (v:Nat):Nat→Nat→SS→Option SS
 | 0,_,_=>none
 | f+1,i,s=>
  if i=0 then some (stopH s i v)
  else
   match s.hp[(i-1)/2]? with
   | none=>none
   | some u=>
    match s.sc[u]?,s.sc[v]? with
    | some a,some b=>if flt a b then upL v f ((i-1)/2) (stopH s i u) else some (stopH s i v)
    | _,_=>none
def upM (V:Nat) (s:SS) (i:Nat):Option SS:=
 match s.hp[i]? with
 | none=>none
 | some v=>if v≤V then upL v (i+1) i s else none
def kidM (s:SS) (i:Nat):Option Nat:=
 if 2*i+2<s.hp.length then
  match s.hp[2*i+2]?,s.hp[2*i+1]? with
  | some u1,some u0=>
   match s.sc[u1]?,s.sc[u0]? with
   | some a1,some a0=>some (if fgt a1 a0 then 2*i+2 else 2*i+1)
   | _,_=>none
  | _,_=>none
 else some (2*i+1)
def downL (v:Nat):Nat→Nat→SS→Option SS
 | 0,_,_=>none
 | f+1,i,s=>
  if 2*i+1<s.hp.length then
   match kidM s i with
   | none=>none
   | some k=>
    match s.hp[k]? with
    | none=>none
    | some u=>
     match s.sc[u]?,s.sc[v]? with
     | some a,some b=>if fle a b then some (stopH s i v) else downL v f k (stopH s i u)
     | _,_=>none
  else some (stopH s i v)
def downM (V:Nat) (s:SS):Option SS:=
 match s.hp[0]? with
 | none=>none
 | some v=>if v≤V then downL v (s.hp.length+1) 0 s else none
def popM (V:Nat) (s:SS):Option (Nat×SS):=
 match s.hp[0]?,s.hp[s.hp.length-1]? with
 | some v,some l=>
  if v≤V∧l≤V then
   let s1:SS:={ s with hp:=s.hp.take (s.hp.length-1),pl:=s.pl.set v (-1) }
   if s.hp.length-1=0 then some (v,s1)
   else
    match downM V (stopH s1 0 l) with
    | some s2=>some (v,s2)
    | none=>none
  else none
 | _,_=>none
def mulAll (c:Nat):List Nat→Option (List Nat)
 | []=>some []
 | a::r=>
  match fmul a c,mulAll c r with
  | some x,some y=>some (x::y)
  | _,_=>none
def bumpF (sc:List Nat) (gr v:Nat):Option (List Nat×Nat):=
 match sc[v]? with
 | none=>none
 | some a=>
  match fadd a gr with
  | none=>none
  | some b=>
   if fgt b fBig then
    match mulAll fTiny (sc.set v b),fmul gr fTiny with
    | some l,some g=>some (l,g)
    | _,_=>none
   else some (sc.set v b,gr)
def bumpM (V:Nat) (s:SS) (v:Nat):Option SS:=
 match bumpF s.sc s.gr v with
 | none=>none
 | some (l,g)=>
  let s1:SS:={ s with sc:=l,gr:=g }
  match s1.pl[v]? with
  | none=>none
  | some p=>if 0≤p then upM V s1 p.toNat else some s1
def upd (wt:Nat→List Nat) (i:Nat) (l:List Nat):Nat→List Nat:=fun j=>if j=i then l else wt j
def attachM (V:Nat) (s:SS) (c:List Int):Option SS:=
 match c with
 | a::b::_=>
  if a.natAbs≤V∧b.natAbs≤V∧s.xs.length<4000000∧(s.wt (ix a)).length<4000000∧(upd s.wt (ix a) (s.wt (ix a)++[s.xs.length]) (ix b)).length<4000000 then
   let w1:=upd s.wt (ix a) (s.wt (ix a)++[s.xs.length])
   some { s with xs:=s.xs++[c],wt:=upd w1 (ix b) (w1 (ix b)++[s.xs.length]) }
  else none
 | _=>none
def neat (c:List Int):List Int:=Lib.compact (c.mergeSort fun x y=>decide (x≤y))
def addM (V:Nat) (s:SS) (c:List Int):Option SS:=
 if (neat c).any (fun n=>decide (0<n)&&(neat c).contains (-n)) then some s
 else
  match neat c with
  | []=>some { s with dead:=true }
  | [a]=>
   match ofM s.vs a with
   | none=>none
   | some x=>if x = -1 then some { s with dead:=true } else if x=0 then setM V s a (-1) else some s
  | a::b::r=>attachM V s (a::b::r)
def seekM (vs:List Int):List Int→Option Nat
 | []=>some 0
 | a::r=>
  match ofM vs a with
  | none=>none
  | some x=>if x = -1 then (match seekM vs r with | some j=>some (j+1) | none=>none) else some 0
def swap2 (n:Int):List Int→List Int
 | a::b::t=>if a=n then b::a::t else a::b::t
 | c=>c
inductive Spr where
 | go (kept:List Nat) (s:SS)
 | bad (k:Nat) (kept:List Nat) (s:SS)
def spr1 (V:Nat) (n:Int) (k:Nat) (r kept:List Nat) (s:SS):Option Spr:=
 match s.xs[k]? with
 | none=>none
 | some c0=>
  match swap2 n c0 with
  | a::b::t=>
   let s1:SS:={ s with xs:=s.xs.set k (a::b::t) }
   match ofM s.vs a with
   | none=>none
   | some x=>
    if x=1 then some (.go (kept++[k]) s1)
    else
     match seekM s.vs t with
     | none=>none
     | some j=>
      match t[j]? with
      | some y=>
       if y.natAbs≤V∧ix y≠ix n∧(s.wt (ix y)).length<4000000 then
        some (.go kept { s1 with xs:=s.xs.set k (a::y::t.set j b),wt:=upd s.wt (ix y) (s.wt (ix y)++[k]) })
       else none
      | none=>
       if x = -1 then some (.bad k (kept++[k]++r) s1)
       else
        match setM V s1 a (k:Int) with
        | none=>none
        | some s2=>some (.go (kept++[k]) s2)
  | _=>none
def sprI (V:Nat) (n:Int):List Nat→List Nat→SS→Option Spr
 | [],kept,s=>some (.go kept s)
 | k::r,kept,s=>
  match spr1 V n k r kept s with
  | none=>none
  | some (.bad k' l s')=>some (.bad k' l s')
  | some (.go l s')=>sprI V n r l s'
def sprL (V:Nat):Nat→SS→Option (Option Nat×SS)
 | 0,_=>none
 | f+1,s=>
  match s.tr[s.hd]? with
  | none=>if s.tr.length≤s.hd then some (none,s) else none
  | some t=>
   if t.natAbs≤V then
    let s1:SS:={ s with hd:=s.hd+1 }
    match sprI V (-t) (s.wt (ix (-t))) [] s1 with
    | none=>none
    | some (.bad k l s2)=>some (some k,{ s2 with wt:=upd s2.wt (ix (-t)) l })
    | some (.go l s2)=>sprL V f { s2 with wt:=upd s2.wt (ix (-t)) l }
   else none
def spreadM (V:Nat) (s:SS):Option (Option Nat×SS):=sprL V (V+2) s
structure LS where
 s:SS
 seen:List Bool
 op:Nat
 out:List Int
def lcl (V:Nat) (n:Int):List Int→LS→Option LS
 | [],l=>some l
 | x::r,l=>
  match l.seen[x.natAbs]?,l.s.lv[x.natAbs]? with
  | some b,some v=>
   if x=n∨b=true∨v=0 then lcl V n r l
   else
    match bumpM V l.s x.natAbs with
    | none=>none
    | some s'=>
     if l.op<1000000∧l.out.length<1000000 then
      if v=(l.s.lm.length:Int) then lcl V n r { s:=s',seen:=l.seen.set x.natAbs true,op:=l.op+1,out:=l.out }
      else lcl V n r { s:=s',seen:=l.seen.set x.natAbs true,op:=l.op,out:=l.out++[x] }
     else none
  | _,_=>none
def lseek (tr:List Int) (seen:List Bool):Nat→Option Nat
 | 0=>
  match tr[0]? with
  | some t=>(match seen[t.natAbs]? with | some true=>some 0 | _=>none)
  | none=>none
 | a+1=>
  match tr[a+1]? with
  | some t=>(match seen[t.natAbs]? with | some true=>some (a+1) | some false=>lseek tr seen a | none=>none)
  | none=>none
def lrnL (V:Nat):Nat→(k:Int)→(n:Int)→(at_:Nat)→LS→Option (Int×LS)
 | 0,_,_,_,_=>none
 | f+1,k,n,at_,l=>
  if k<0 then none
  else
   match l.s.xs[k.toNat]? with
   | none=>none
   | some c=>
    match lcl V n c l with
    | none=>none
    | some l1=>
     match at_ with
     | 0=>none
     | at1+1=>
      match lseek l1.s.tr l1.seen at1 with
      | none=>none
      | some a=>
       match l1.s.tr[a]? with
       | none=>none
       | some t=>
        match l1.s.rs[t.natAbs]? with
        | none=>none
        | some k'=>
         match l1.op with
         | 0=>none
         | 1=>some (t,{ l1 with op:=0 })
         | o+2=>lrnL V f k' t a { l1 with op:=o+1 }
def lswap (lv:List Int):Nat→Nat→List Int→Int→Option (List Int×Int)
 | 0,_,_,_=>none
 | f+1,i,out,back=>
  if i<out.length then
   match out[i]?,out[1]? with
   | some x,some y=>
    match lv[x.natAbs]? with
    | none=>none
    | some l=>if back<l then lswap lv f (i+1) ((out.set 1 x).set i y) l else lswap lv f (i+1) out back
   | _,_=>none
  else some (out,back)
def learnM (V:Nat) (s:SS) (k:Nat):Option (List Int×Int×SS):=
 match lrnL V (s.tr.length+1) (k:Int) 0 s.tr.length { s:=s,seen:=List.replicate (V+1) false,op:=0,out:=[0] } with
 | none=>none
 | some (t,l)=>
  match lswap l.s.lv (l.out.length+1) 1 (l.out.set 0 (-t)) 0 with
  | none=>none
  | some (out,back)=>some (out,back,l.s)
def backL (V:Nat):List Int→SS→Option SS
 | [],s=>some s
 | n::r,s=>
  match s.vs[n.natAbs]?,s.pl[n.natAbs]? with
  | some _,some p=>
   if p<0 then
    if s.hp.length<1000000 then
     match upM V { s with vs:=s.vs.set n.natAbs 0,hp:=s.hp++[n.natAbs],pl:=s.pl.set n.natAbs (s.hp.length:Int) } s.hp.length with
     | none=>none
     | some s1=>backL V r s1
    else none
   else backL V r { s with vs:=s.vs.set n.natAbs 0 }
  | _,_=>none
def backM (V:Nat) (s:SS) (level:Nat):Option SS:=
 if s.lm.length≤level then some s
 else
  match s.lm[level]? with
  | none=>none
  | some m=>
   if m<s.tr.length then
    match backL V (s.tr.drop m) s with
    | none=>none
    | some s1=>some { s1 with tr:=s.tr.take m,lm:=s.lm.take level,hd:=m }
   else none
def decL (V:Nat):Nat→SS→Option (Bool×SS)
 | 0,_=>none
 | f+1,s=>
  if s.hp.length=0 then some (false,s)
  else
   match popM V s with
   | none=>none
   | some (v,s1)=>
    match s1.vs[v]? with
    | none=>none
    | some x=>
     if x≠0 then decL V f s1
     else
      match s1.ph[v]? with
      | none=>none
      | some b=>
       match (if s1.lm.length<V then setM V { s1 with lm:=s1.lm++[s1.tr.length] } (if b then (v:Int) else -(v:Int)) (-1) else none) with
       | none=>none
       | some s2=>some (true,s2)
def decideM (V:Nat) (s:SS):Option (Bool×SS):=decL V (s.hp.length+1) s
def lubyK (i:Nat):Nat→Nat→Nat
 | 0,k=>k
 | f+1,k=>if 2 ^ k-1<i+1 then lubyK i f (k+1) else k
def luby:Nat→Nat→Nat
 | 0,_=>1
 | f+1,i=>if 2 ^ lubyK i 64 1-1=i+1 then 2 ^ (lubyK i 64 1-1) else luby f (i-(2 ^ (lubyK i 64 1-1)-1))
inductive Ans where
 | yes (m:List Bool)
 | no (pf:List (List Int))
 | tired
def modelOf (V:Nat) (vs:List Int):List Bool:=(List.range V).map fun v=>vs.getD (v+1) 0 == 1
def conflictM (V:Nat) (s:SS) (k:Nat):Option SS:=
 match learnM V s k with
 | none=>none
 | some (c,back,s1)=>
  if back<0∨¬ s1.pf.length<4000000 then none
  else
   match backM V { s1 with pf:=s1.pf++[c] } back.toNat with
   | none=>none
   | some s2=>
    match fmul s2.gr fGrow with
    | none=>none
    | some g=>
     let s3:SS:={ s2 with gr:=g }
     match c with
     | []=>none
     | [a]=>setM V s3 a (-1)
     | a::b::r=>
      match attachM V s3 (a::b::r) with
      | none=>none
      | some s4=>setM V s4 a (s3.xs.length:Int)
def searchL (V effort:Nat):Nat→(rd cf:Nat)→(left:Int)→SS→Option (Ans×SS)
 | 0,_,_,_,_=>none
 | f+1,rd,cf,left,s=>
  match spreadM V s with
  | none=>none
  | some (none,s1)=>
   if left≤0 then
    if rd<1000000000 then
     match backM V s1 0 with
     | none=>none
     | some s2=>searchL V effort f (rd+1) cf (100*(luby 64 (rd+1):Int)) s2
    else none
   else
    match decideM V s1 with
    | none=>none
    | some (false,s2)=>some (.yes (modelOf V s2.vs),s2)
    | some (true,s2)=>searchL V effort f rd cf left s2
  | some (some k,s1)=>
   if s1.lm.length=0 then some (.no (s1.pf++[[]]),s1)
   else if cf=effort then some (.tired,s1)
   else
    match conflictM V s1 k with
    | none=>none
    | some s2=>searchL V effort f rd (cf+1) (left-1) s2
def searchM (V effort fuel:Nat) (s:SS):Option (Ans×SS):=
 if s.dead then some (.no (s.pf++[[]]),s)
 else
  match spreadM V s with
  | none=>none
  | some (some _,s1)=>some (.no (s1.pf++[[]]),s1)
  | some (none,s1)=>searchL V effort fuel 0 0 100 s1
end Go.Proofs.YthkhfbofhdfdoaaGreatDoor.slv
namespace Go.Proofs.YthkhfbofhdfdoaaGreatDoor.slv
structure Hp (V:Nat) (hp:List Nat) (pl:List Int):Prop where
 len:pl.length=V+1
 at_:∀ (i v:Nat),hp[i]? = some v→1≤v∧v≤V∧pl[v]? = some (i:Int)
 of_:∀ (v:Nat) (p:Int),1≤v→pl[v]? = some p→p = -1∨∃ i:Nat,p=(i:Int)∧hp[i]? = some v
section
variable {V:Nat} {hp:List Nat} {pl:List Int}
theorem Hp.inj (h:Hp V hp pl) {i j v:Nat} (hi:hp[i]? = some v) (hj:hp[j]? = some v):i=j:=by
 have h1:=(h.at_ i v hi).2.2
 have h2:=(h.at_ j v hj).2.2
 rw [h1] at h2
 injection h2 with h2
 omega
theorem lt_of_at {α:Type} {l:List α} {i:Nat} {x:α} (h:l[i]? = some x):i<l.length:=(List.getElem?_eq_some_iff.1 h).1
theorem at_set {α:Type} {l:List α} {i j:Nat} {x:α} (hi:i<l.length):(l.set i x)[j]? = if j=i then some x else l[j]? := by
 rw [List.getElem?_set]
 by_cases e:j=i
 ·subst e; simp [hi]
 ·rw [if_neg (fun e'=>e e'.symm),if_neg e]
theorem Hp.swap (h:Hp V hp pl) {i j v u:Nat} (hi:hp[i]? = some v) (hj:hp[j]? = some u):Hp V ((hp.set i u).set j v) ((pl.set u (i:Int)).set v (j:Int)):=by
 have li:=lt_of_at hi
 have lj:=lt_of_at hj
 obtain ⟨v1,v2,v3⟩:=h.at_ i v hi
 obtain ⟨u1,u2,u3⟩:=h.at_ j u hj
 have lv:=lt_of_at v3
 have lu:=lt_of_at u3
 have hhp:∀ k,((hp.set i u).set j v)[k]? = if k=j then some v else if k=i then some u else hp[k]? := fun k=>by
  rw [at_set (by rw [List.length_set]; exact lj),at_set li]
 have hpl:∀ k,((pl.set u (i:Int)).set v (j:Int))[k]? = if k=v then some (j:Int) else if k=u then some (i:Int) else pl[k]? := fun k=>by
  rw [at_set (by rw [List.length_set]; exact lv),at_set lu]
 refine ⟨by rw [List.length_set,List.length_set]; exact h.len,fun k x hx=>?_,fun x p hx1 hx=>?_⟩
 ·rw [hhp] at hx
  rw [hpl]
  by_cases k1:k=j
  ·rw [if_pos k1] at hx
   injection hx with hx
   subst hx; subst k1
   exact ⟨v1,v2,by rw [if_pos rfl]⟩
  ·rw [if_neg k1] at hx
   by_cases k2:k=i
   ·rw [if_pos k2] at hx
    injection hx with hx
    subst hx; subst k2
    refine ⟨u1,u2,?_⟩
    rw [if_neg (fun e=>?_),if_pos rfl]
    subst e
    exact k1 (h.inj hi hj)
   ·rw [if_neg k2] at hx
    obtain ⟨x1,x2,x3⟩:=h.at_ k x hx
    refine ⟨x1,x2,?_⟩
    rw [if_neg (fun e=>?_),if_neg (fun e=>?_)]
    ·exact x3
    ·subst e; exact k1 (h.inj hx hj)
    ·subst e; exact k2 (h.inj hx hi)
 ·rw [hpl] at hx
  by_cases k1:x=v
  ·rw [if_pos k1] at hx
   injection hx with hx
   subst hx; subst k1
   exact .inr ⟨j,rfl,by rw [hhp,if_pos rfl]⟩
  ·rw [if_neg k1] at hx
   by_cases k2:x=u
   ·rw [if_pos k2] at hx
    injection hx with hx
    subst hx; subst k2
    refine .inr ⟨i,rfl,?_⟩
    rw [hhp]
    by_cases e:i=j
    ·subst e
     rw [hi] at hj
     injection hj with hj
     exact absurd hj.symm k1
    ·rw [if_neg e,if_pos rfl]
   ·rw [if_neg k2] at hx
    rcases h.of_ x p hx1 hx with e | ⟨k,rfl,hk⟩
    ·exact .inl e
    ·refine .inr ⟨k,rfl,?_⟩
     rw [hhp,if_neg (fun e=>?_),if_neg (fun e=>?_)]
     ·exact hk
     ·subst e; rw [hi] at hk; injection hk with hk; exact k1 hk.symm
     ·subst e; rw [hj] at hk; injection hk with hk; exact k2 hk.symm
theorem swap_perm {l:List Nat} {i j v u:Nat} (hi:l[i]? = some v) (hj:l[j]? = some u):((l.set i u).set j v).Perm l:=by
 obtain ⟨l1,e1⟩:=List.getElem?_eq_some_iff.1 hi
 obtain ⟨l2,e2⟩:=List.getElem?_eq_some_iff.1 hj
 subst e1; subst e2
 exact List.set_set_perm l1 l2
theorem hole_move {i j v u:Nat} (h:Hp V (hp.set i v) (pl.set v (i:Int))) (hi:i<hp.length) (hv:v<pl.length) (hj:hp[j]? = some u) (hne:j≠i) :
  Hp V ((hp.set i u).set j v) ((pl.set u (i:Int)).set v (j:Int))∧((hp.set i u).set j v).Perm (hp.set i v)∧u≤V∧1≤u:=by
 have h1:(hp.set i v)[i]? = some v:=by rw [at_set hi,if_pos rfl]
 have h2:(hp.set i v)[j]? = some u:=by rw [at_set hi,if_neg hne]; exact hj
 have hs:=h.swap h1 h2
 have hp':=swap_perm h1 h2
 rw [List.set_set] at hs hp'
 refine ⟨?_,hp',(h.at_ j u h2).2.1,(h.at_ j u h2).1⟩
 have hne2:u≠v:=fun e=>by subst e; exact hne (h.inj h2 h1)
 rw [List.set_comm _ _ (fun e=>hne2 e.symm),List.set_set] at hs
 exact hs
theorem at_lt {α:Type} {l:List α} {i:Nat} (h:i<l.length):∃ x,l[i]? = some x:=⟨_,List.getElem?_eq_getElem h⟩
theorem upL_ok {v:Nat}:∀ {f i:Nat} {s:SS},i<f→Hp V (s.hp.set i v) (s.pl.set v (i:Int))→i<s.hp.length→v<s.pl.length→s.sc.length=V+1→v≤V →
  ∃ hp' pl',upL v f i s=some { s with hp:=hp',pl:=pl' }∧Hp V hp' pl'∧hp'.Perm (s.hp.set i v)
 | 0,_,_,h,_,_,_,_,_=>absurd h (Nat.not_lt_zero _)
 | f+1,i,s,hf,h,hi,hv,hsc,hvV=>by
  unfold upL
  by_cases h0:i=0
  ·rw [if_pos h0]
   exact ⟨_,_,rfl,h,List.Perm.refl _⟩
  ·rw [if_neg h0]
   obtain ⟨u,hu⟩:=at_lt (l:=s.hp) (i:=(i-1)/2) (by omega)
   obtain ⟨hm,hpm,hu2,_⟩:=hole_move h hi hv hu (by omega)
   obtain ⟨a,ha⟩:=at_lt (l:=s.sc) (i:=u) (by omega)
   obtain ⟨b,hb⟩:=at_lt (l:=s.sc) (i:=v) (by omega)
   rw [hu]
   dsimp only
   rw [ha,hb]
   dsimp only
   cases flt a b with
   | false=>exact ⟨_,_,rfl,h,List.Perm.refl _⟩
   | true=>
    obtain ⟨hp',pl',e,hh,hp2⟩:=upL_ok (f:=f) (i:=(i-1)/2) (s:=stopH s i u) (by omega) (by show Hp V ((s.hp.set i u).set _ v) ((s.pl.set u _).set v _); exact hm)
     (by show _<(s.hp.set i u).length; rw [List.length_set]; omega) (by show v<(s.pl.set u _).length; rw [List.length_set]; exact hv) hsc hvV
    refine ⟨hp',pl',?_,hh,hp2.trans ?_⟩
    ·simp only [if_true]
     rw [e]
     rfl
    ·exact hpm
theorem upM_ok {i:Nat} {s:SS} (h:Hp V s.hp s.pl) (hi:i<s.hp.length) (hsc:s.sc.length=V+1) :
  ∃ hp' pl',upM V s i=some { s with hp:=hp',pl:=pl' }∧Hp V hp' pl'∧hp'.Perm s.hp:=by
 obtain ⟨v,hv⟩:=at_lt hi
 obtain ⟨v1,v2,v3⟩:=h.at_ i v hv
 unfold upM
 rw [hv]
 dsimp only
 rw [if_pos v2]
 have e1:s.hp.set i v=s.hp:=by
  obtain ⟨l,e⟩:=List.getElem?_eq_some_iff.1 hv
  subst e; exact List.set_getElem_self l
 have e2:s.pl.set v (i:Int)=s.pl:=by
  obtain ⟨l,e⟩:=List.getElem?_eq_some_iff.1 v3
  rw [← e]; exact List.set_getElem_self l
 have:=upL_ok (f:=i+1) (i:=i) (s:=s) (v:=v) (by omega) (by rw [e1,e2]; exact h) hi (lt_of_at v3) hsc v2
 rw [e1] at this
 exact this
theorem kidM_ok {i v:Nat} {s:SS} (h:Hp V (s.hp.set i v) (s.pl.set v (i:Int))) (hi:i<s.hp.length) (hsc:s.sc.length=V+1) (hk:2*i+1<s.hp.length) :
  ∃ k,kidM s i=some k∧k<s.hp.length∧i<k∧k≤2*i+2:=by
 unfold kidM
 by_cases h2:2*i+2<s.hp.length
 ·rw [if_pos h2]
  obtain ⟨u1,hu1⟩:=at_lt h2
  obtain ⟨u0,hu0⟩:=at_lt hk
  have b1:=(h.at_ (2*i+2) u1 (by rw [at_set hi,if_neg (by omega)]; exact hu1)).2.1
  have b0:=(h.at_ (2*i+1) u0 (by rw [at_set hi,if_neg (by omega)]; exact hu0)).2.1
  obtain ⟨a1,ha1⟩:=at_lt (l:=s.sc) (i:=u1) (by omega)
  obtain ⟨a0,ha0⟩:=at_lt (l:=s.sc) (i:=u0) (by omega)
  rw [hu1,hu0]
  dsimp only
  rw [ha1,ha0]
  dsimp only
  refine ⟨_,rfl,?_⟩
  split <;> omega
 ·rw [if_neg h2]
  exact ⟨_,rfl,hk,by omega,by omega⟩
theorem downL_ok {v:Nat}:∀ {f i:Nat} {s:SS},s.hp.length<f+i→Hp V (s.hp.set i v) (s.pl.set v (i:Int))→i<s.hp.length→v<s.pl.length→s.sc.length=V+1→v≤V →
  ∃ hp' pl',downL v f i s=some { s with hp:=hp',pl:=pl' }∧Hp V hp' pl'∧hp'.Perm (s.hp.set i v)
 | 0,_,_,hf,_,hi,_,_,_=>absurd hi (by omega)
 | f+1,i,s,hf,h,hi,hv,hsc,hvV=>by
  unfold downL
  by_cases h0:2*i+1<s.hp.length
  ·rw [if_pos h0]
   obtain ⟨k,ek,hk,hik,_⟩:=kidM_ok h hi hsc h0
   rw [ek]
   dsimp only
   obtain ⟨u,hu⟩:=at_lt hk
   obtain ⟨hm,hpm,hu2,_⟩:=hole_move h hi hv hu (by omega)
   obtain ⟨a,ha⟩:=at_lt (l:=s.sc) (i:=u) (by omega)
   obtain ⟨b,hb⟩:=at_lt (l:=s.sc) (i:=v) (by omega)
   rw [hu]
   dsimp only
   rw [ha,hb]
   dsimp only
   cases fle a b with
   | true=>exact ⟨_,_,rfl,h,List.Perm.refl _⟩
   | false=>
    obtain ⟨hp',pl',e,hh,hp2⟩:=downL_ok (f:=f) (i:=k) (s:=stopH s i u) (by show (s.hp.set i u).length<_; rw [List.length_set]; omega) (by show Hp V ((s.hp.set i u).set _ v) ((s.pl.set u _).set v _); exact hm)
     (by show _<(s.hp.set i u).length; rw [List.length_set]; omega) (by show v<(s.pl.set u _).length; rw [List.length_set]; exact hv) hsc hvV
    refine ⟨hp',pl',?_,hh,hp2.trans ?_⟩
    ·simp only [Bool.false_eq_true,if_false]
     rw [e]
     rfl
    ·exact hpm
  ·rw [if_neg h0]
   exact ⟨_,_,rfl,h,List.Perm.refl _⟩
theorem setSelf {α:Type} {l:List α} {i:Nat} {x:α} (h:l[i]? = some x):l.set i x=l:=by
 obtain ⟨l1,e⟩:=List.getElem?_eq_some_iff.1 h
 subst e; exact List.set_getElem_self l1
theorem downM_ok {s:SS} (h:Hp V s.hp s.pl) (hi:0<s.hp.length) (hsc:s.sc.length=V+1) :
  ∃ hp' pl',downM V s=some { s with hp:=hp',pl:=pl' }∧Hp V hp' pl'∧hp'.Perm s.hp:=by
 obtain ⟨v,hv⟩:=at_lt hi
 obtain ⟨v1,v2,v3⟩:=h.at_ 0 v hv
 unfold downM
 rw [hv]
 dsimp only
 rw [if_pos v2]
 have e1:s.hp.set 0 v=s.hp:=setSelf hv
 have e2:s.pl.set v ((0:Nat):Int)=s.pl:=setSelf v3
 have:=downL_ok (f:=s.hp.length+1) (i:=0) (s:=s) (v:=v) (by omega) (by rw [e1,e2]; exact h) hi (lt_of_at v3) hsc v2
 rw [e1] at this
 exact this
theorem Hp.pop (h:Hp V hp pl) {v n:Nat} (hn:hp.length=n+1) (hv:hp[n]? = some v):Hp V (hp.take n) (pl.set v (-1)):=by
 obtain ⟨v1,v2,v3⟩:=h.at_ n v hv
 have lv:=lt_of_at v3
 refine ⟨by rw [List.length_set]; exact h.len,fun k x hx=>?_,fun x p hx1 hx=>?_⟩
 ·have hk:k<n:=by have:=lt_of_at hx; rw [List.length_take] at this; omega
  rw [List.getElem?_take,if_pos hk] at hx
  obtain ⟨x1,x2,x3⟩:=h.at_ k x hx
  refine ⟨x1,x2,?_⟩
  rw [at_set lv,if_neg (fun e=>?_)]
  ·exact x3
  ·subst e; have:=h.inj hx hv; omega
 ·rw [at_set lv] at hx
  by_cases e:x=v
  ·rw [if_pos e] at hx; injection hx with hx; exact .inl hx.symm
  ·rw [if_neg e] at hx
   rcases h.of_ x p hx1 hx with e2 | ⟨k,rfl,hk⟩
   ·exact .inl e2
   ·refine .inr ⟨k,rfl,?_⟩
    have hkn:k<n:=by
     have:=lt_of_at hk
     by_cases e3:k=n
     ·subst e3; rw [hv] at hk; injection hk with hk; exact absurd hk.symm e
     ·omega
    rw [List.getElem?_take,if_pos hkn]
    exact hk
theorem perm_last {l:List Nat} {v n:Nat} (hn:l.length=n+1) (hv:l[n]? = some v):(v::l.take n).Perm l:=by
 have e:l=l.take n++[v]:=by
  have h1:=List.take_append_drop n l
  obtain ⟨l1,e⟩:=List.getElem?_eq_some_iff.1 hv
  rw [List.drop_eq_getElem_cons l1,e,List.drop_eq_nil_of_le (by omega)] at h1
  exact h1.symm
 have h2:=(List.perm_append_singleton v (l.take n)).symm
 rw [← e] at h2
 exact h2
theorem popM_ok {s:SS} (h:Hp V s.hp s.pl) (hi:0<s.hp.length) (hsc:s.sc.length=V+1) :
  ∃ v hp' pl',popM V s=some (v,{ s with hp:=hp',pl:=pl' })∧Hp V hp' pl'∧(v::hp').Perm s.hp∧1≤v∧v≤V:=by
 obtain ⟨v,hv⟩:=at_lt hi
 obtain ⟨v1,v2,v3⟩:=h.at_ 0 v hv
 obtain ⟨n,hn⟩:∃ n,s.hp.length=n+1:=⟨s.hp.length-1,by omega⟩
 obtain ⟨l,hl⟩:=at_lt (l:=s.hp) (i:=n) (by omega)
 obtain ⟨l1,l2,l3⟩:=h.at_ n l hl
 unfold popM
 rw [hv,hn,Nat.add_sub_cancel,hl]
 dsimp only
 rw [if_pos ⟨v2,l2⟩]
 by_cases h0:n=0
 ·subst h0
  rw [if_pos rfl]
  exact ⟨v,_,_,rfl,h.pop hn hv,perm_last hn hv,v1,v2⟩
 ·rw [if_neg h0]
  have hne:v≠l:=fun e=>by subst e; exact h0 (h.inj hl hv)
  have hs:=h.swap hv hl
  have hsp:=swap_perm hv hl
  have hlen:((s.hp.set 0 l).set n v).length=n+1:=by rw [List.length_set,List.length_set,hn]
  have hat:((s.hp.set 0 l).set n v)[n]? = some v:=by rw [at_set (by rw [List.length_set]; omega),if_pos rfl]
  have hd:=hs.pop hlen hat
  have hdp:=(perm_last hlen hat).trans hsp
  have e1:((s.hp.set 0 l).set n v).take n=(s.hp.take n).set 0 l:=by
   rw [List.take_set_of_le (Nat.le_refl n),List.take_set]
  have e2:((s.pl.set l ((0:Nat):Int)).set v (n:Int)).set v (-1)=(s.pl.set v (-1)).set l ((0:Nat):Int):=by
   rw [List.set_set,List.set_comm _ _ (fun e=>hne e.symm)]
  rw [e1,e2] at hd
  rw [e1] at hdp
  obtain ⟨hp',pl',e,hh,hp2⟩:=downM_ok (s:=stopH { s with hp:=s.hp.take n,pl:=s.pl.set v (-1) } 0 l) hd (by show 0<((s.hp.take n).set 0 l).length; rw [List.length_set,List.length_take]; omega) hsc
  rw [e]
  exact ⟨v,hp',pl',rfl,hh,(List.Perm.cons v hp2).trans hdp,v1,v2⟩
theorem Hp.push (h:Hp V hp pl) {v:Nat} (v1:1≤v) (v2:v≤V) (hv:v ∉ hp):Hp V (hp++[v]) (pl.set v (hp.length:Int)):=by
 have lv:v<pl.length:=by rw [h.len]; omega
 refine ⟨by rw [List.length_set]; exact h.len,fun k x hx=>?_,fun x p hx1 hx=>?_⟩
 ·by_cases hk:k<hp.length
  ·rw [List.getElem?_append_left hk] at hx
   obtain ⟨x1,x2,x3⟩:=h.at_ k x hx
   refine ⟨x1,x2,?_⟩
   rw [at_set lv,if_neg (fun e=>?_)]
   ·exact x3
   ·subst e; exact hv (List.mem_of_getElem? hx)
  ·have hk2:k=hp.length:=by have:=lt_of_at hx; simp at this; omega
   subst hk2
   rw [List.getElem?_append_right (Nat.le_refl _),Nat.sub_self] at hx
   injection hx with hx
   subst hx
   exact ⟨v1,v2,by rw [at_set lv,if_pos rfl]⟩
 ·rw [at_set lv] at hx
  by_cases e:x=v
  ·rw [if_pos e] at hx
   injection hx with hx
   subst hx; subst e
   exact .inr ⟨hp.length,rfl,by simp⟩
  ·rw [if_neg e] at hx
   rcases h.of_ x p hx1 hx with e2 | ⟨k,rfl,hk⟩
   ·exact .inl e2
   ·exact .inr ⟨k,rfl,by rw [List.getElem?_append_left (lt_of_at hk)]; exact hk⟩
theorem Hp.place (h:Hp V hp pl) {v:Nat} {p:Int} (v1:1≤v) (hv:pl[v]? = some p):(p<0↔v ∉ hp):=by
 constructor
 ·intro hp0 hm
  obtain ⟨i,hi,e⟩:=List.getElem_of_mem hm
  have:=(h.at_ i v (by rw [List.getElem?_eq_getElem hi,e])).2.2
  rw [hv] at this
  injection this with this
  omega
 ·intro hm
  rcases h.of_ v p v1 hv with e | ⟨i,_,hi⟩
  ·omega
  ·exact absurd (List.mem_of_getElem? hi) hm
theorem Hp.nodup (h:Hp V hp pl):hp.Nodup:=by
 rw [List.nodup_iff_pairwise_ne,List.pairwise_iff_getElem]
 intro i j hi hj hij e
 have:=h.inj (i:=i) (j:=j) (v:=hp[i]) (List.getElem?_eq_getElem hi) (by rw [e]; exact List.getElem?_eq_getElem hj)
 omega
end
end Go.Proofs.YthkhfbofhdfdoaaGreatDoor.slv
namespace Go.Proofs.YthkhfbofhdfdoaaGreatDoor.slv
open Ieee
def Fin0 (a:Nat):Prop:=a≤double.infRung
theorem read_fin {a:Nat} (h:Fin0 a):(∃ m i,double.read a = .number false m i)∨double.read a = .infinity false:=by
 have h1:double.infRung<double.signWeight:=by decide
 have h0:a<double.signWeight:=Nat.lt_of_le_of_lt h h1
 have e1:a/double.signWeight=0:=Nat.div_eq_of_lt h0
 have e2:a%double.signWeight=a:=Nat.mod_eq_of_lt h0
 unfold Format.read
 rw [e1,e2]
 dsimp only
 by_cases c1:a<double.binade
 ·rw [if_pos c1]; exact .inl ⟨_,_,rfl⟩
 ·rw [if_neg c1]
  by_cases c2:a<double.infRung
  ·rw [if_pos c2]; exact .inl ⟨_,_,rfl⟩
  ·rw [if_neg c2,if_pos (Nat.le_antisymm h (Nat.le_of_not_lt c2))]; exact .inr rfl
theorem nearest_le (f:Format) (m:Nat) (i:Int):f.nearest false m i≤f.infRung:=by
 unfold Format.nearest Format.word
 by_cases h:m=0
 ·rw [if_pos h,if_neg (by decide)]; exact Nat.zero_le _
 ·rw [if_neg h,if_neg (by decide)]
  exact Nat.min_le_right _ _
theorem inf_le (f:Format):f.write (.infinity false)≤f.infRung:=by
 unfold Format.write Format.word
 dsimp only
 rw [if_neg (by decide)]
 exact Nat.le_refl _
theorem write_num (m:Nat) (i:Int):Fin0 (double.write (.number false m i)):=nearest_le double m i
theorem write_inf:Fin0 (double.write (.infinity false)):=inf_le double
theorem sum_num (m n:Nat) (i j:Int):∃ k b,(Datum.number false m i).sum (.number false n j)=some (.number false k b):=by
 have e:∀ (total:Int),0≤total→(if total=0 then (false&&false) else decide (total<0))=false:=fun t ht=>by
  by_cases h:t=0
  ·rw [if_pos h]; rfl
  ·rw [if_neg h]; exact decide_eq_false (by omega)
 unfold Datum.sum
 dsimp only
 rw [e _ (by unfold signed; rw [if_neg (by decide),if_neg (by decide)]; exact Int.add_nonneg (Int.natCast_nonneg _) (Int.natCast_nonneg _))]
 exact ⟨_,_,rfl⟩
theorem fadd_ok {a b:Nat} (ha:Fin0 a) (hb:Fin0 b):∃ c,fadd a b=some c∧Fin0 c:=by
 unfold fadd Format.add
 rcases read_fin ha with ⟨m,i,e1⟩ | e1 <;> rcases read_fin hb with ⟨n,j,e2⟩ | e2 <;> rw [e1,e2]
 ·obtain ⟨k,q,e⟩:=sum_num m n i j
  rw [e]
  exact ⟨_,rfl,write_num _ _⟩
 ·exact ⟨_,rfl,write_inf⟩
 ·exact ⟨_,rfl,write_inf⟩
 ·exact ⟨_,rfl,write_inf⟩
theorem fmul_ok {a b m:Nat} {i:Int} (ha:Fin0 a) (hb:double.read b = .number false m i) (hm:m≠0):∃ c,fmul a b=some c∧Fin0 c:=by
 unfold fmul Format.mul
 rcases read_fin ha with ⟨n,j,e1⟩ | e1 <;> rw [e1,hb]
 ·exact ⟨_,rfl,write_num _ _⟩
 ·unfold Datum.product
  dsimp only
  rw [if_neg hm]
  exact ⟨_,rfl,write_inf⟩
theorem tiny_ok {a:Nat} (ha:Fin0 a):∃ c,fmul a fTiny=some c∧Fin0 c:=fmul_ok ha (b:=fTiny) (by rfl) (by decide)
theorem grow_ok {a:Nat} (ha:Fin0 a):∃ c,fmul a fGrow=some c∧Fin0 c:=fmul_ok ha (b:=fGrow) (by rfl) (by decide)
theorem mulAll_ok:∀ {l:List Nat},(∀ a∈l,Fin0 a)→∃ l',mulAll fTiny l=some l'∧(∀ a∈l',Fin0 a)∧l'.length=l.length
 | [],_=>⟨[],rfl,fun _ h=>(by cases h),rfl⟩
 | a::r,h=>by
  obtain ⟨c,ec,hc⟩:=tiny_ok (h a List.mem_cons_self)
  obtain ⟨r',er,hr,hl⟩:=mulAll_ok (l:=r) fun x hx=>h x (List.mem_cons_of_mem _ hx)
  unfold mulAll
  rw [ec,er]
  refine ⟨_,rfl,fun x hx=>?_,by simp [hl]⟩
  rcases List.mem_cons.1 hx with rfl | hx
  ·exact hc
  ·exact hr x hx
theorem mem_set_or {α:Type} {l:List α} {i:Nat} {x y:α} (h:y∈l.set i x):y∈l∨y=x:=List.mem_or_eq_of_mem_set h
structure Sc (V:Nat) (sc:List Nat) (gr:Nat):Prop where
 len:sc.length=V+1
 fin:∀ a∈sc,Fin0 a
 gr:Fin0 gr
theorem bumpF_ok {V:Nat} {sc:List Nat} {gr v:Nat} (h:Sc V sc gr) (hv:v≤V):∃ sc' gr',bumpF sc gr v=some (sc',gr')∧Sc V sc' gr':=by
 have hl:=h.len
 obtain ⟨a,ha⟩:=at_lt (l:=sc) (i:=v) (by omega)
 obtain ⟨b,eb,hb⟩:=fadd_ok (h.fin a (List.mem_of_getElem? ha)) h.gr
 have hs:∀ x∈sc.set v b,Fin0 x:=fun x hx=>by
  rcases mem_set_or hx with e | e
  ·exact h.fin x e
  ·subst e; exact hb
 unfold bumpF
 rw [ha]
 dsimp only
 rw [eb]
 dsimp only
 by_cases hg:fgt b fBig=true
 ·rw [if_pos hg]
  obtain ⟨l',el,hl1,hl2⟩:=mulAll_ok hs
  obtain ⟨g,eg,hg1⟩:=tiny_ok h.gr
  rw [el,eg]
  exact ⟨_,_,rfl,by rw [hl2,List.length_set]; exact hl,hl1,hg1⟩
 ·rw [if_neg hg]
  exact ⟨_,_,rfl,by rw [List.length_set]; exact hl,hs,h.gr⟩
theorem bumpM_ok {V v:Nat} {s:SS} (h:Hp V s.hp s.pl) (hs:Sc V s.sc s.gr) (v1:1≤v) (v2:v≤V) :
  ∃ sc' gr' hp' pl',bumpM V s v=some { s with sc:=sc',gr:=gr',hp:=hp',pl:=pl' }∧Hp V hp' pl'∧hp'.Perm s.hp∧Sc V sc' gr':=by
 obtain ⟨sc',gr',e,hsc⟩:=bumpF_ok hs v2
 have hpl:=h.len
 obtain ⟨p,hp⟩:=at_lt (l:=s.pl) (i:=v) (by omega)
 unfold bumpM
 rw [e]
 dsimp only
 rw [hp]
 dsimp only
 by_cases h0:0≤p
 ·rw [if_pos h0]
  rcases h.of_ v p v1 hp with e2 | ⟨i,e2,hi⟩
  ·omega
  ·subst e2
   obtain ⟨hp',pl',e3,h3,h4⟩:=upM_ok (s:={ s with sc:=sc',gr:=gr' }) h (i:=(i:Int).toNat) (by show _<s.hp.length; have:=lt_of_at hi; omega) hsc.len
   rw [e3]
   exact ⟨sc',gr',hp',pl',rfl,h3,h4,hsc⟩
 ·rw [if_neg h0]
  exact ⟨sc',gr',s.hp,s.pl,rfl,h,List.Perm.refl _,hsc⟩
end Go.Proofs.YthkhfbofhdfdoaaGreatDoor.slv
