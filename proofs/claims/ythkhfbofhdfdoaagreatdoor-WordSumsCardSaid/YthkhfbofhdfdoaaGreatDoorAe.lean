/- Plain laws and walks for the law WordSums; no condition. -/
import Derived.Test.YthkhfbofhdfdoaaGreatDoorUa
namespace Go.Proofs.YthkhfbofhdfdoaaGreatDoor.slv
structure Tv (V:Nat) (vs tr:List Int):Prop where
 len:vs.length=V+1
 ok:∀ x∈vs,x = -1∨x=0∨x=1
 trv:∀ n∈tr,Lit V n∧lv (va vs) n=1
 trs:∀ n,Lit V n→lv (va vs) n=1→n∈tr
 nd:tr.Nodup
section
variable {V:Nat} {vs tr:List Int} {n a:Int}
theorem Tv.neg_val (h:Tv V vs tr) (hn:Lit V n) (ht : -n∈tr):lv (va vs) n = -1:=by
 have:=(h.trv _ ht).2
 rw [lv_neg hn.1] at this
 omega
theorem Tv.val_neg (h:Tv V vs tr) (hn:Lit V n) (hv:lv (va vs) n = -1) : -n∈tr:=h.trs _ hn.neg (by rw [lv_neg hn.1,hv]; rfl)
theorem Tv.cases (h:Tv V vs tr) (n:Int):lv (va vs) n = -1∨lv (va vs) n=0∨lv (va vs) n=1:=lv_ok (va_ok h.ok) n
theorem Tv.not_both (h:Tv V vs tr) (hn:Lit V n) (h1:n∈tr) : -n ∉ tr:=fun h2=>by
 have e1:=(h.trv _ h1).2
 have e2:=h.neg_val hn h2
 omega
theorem Tv.open_ (h:Tv V vs tr) (hn:Lit V n) (h1:n ∉ tr) (h2 : -n ∉ tr):lv (va vs) n=0:=by
 rcases h.cases n with e | e | e
 ·exact absurd (h.val_neg hn e) h2
 ·exact e
 ·exact absurd (h.trs n hn e) h1
theorem Tv.of_open (h:Tv V vs tr) (hn:Lit V n) (hz:lv (va vs) n=0):n ∉ tr ∧ -n ∉ tr:=by
 constructor
 ·intro h1; have:=(h.trv _ h1).2; omega
 ·intro h1; have:=h.neg_val hn h1; omega
theorem Tv.fresh (h:Tv V vs tr) (hn:Lit V n) (hz:lv (va vs) n=0) {t:Int} (ht:t∈tr):t.natAbs≠n.natAbs:=fun e=>by
 obtain ⟨h1,h2⟩:=h.of_open hn hz
 have:t=n∨t = -n:=by omega
 rcases this with e | e
 ·subst e; exact h1 ht
 ·subst e; exact h2 ht
theorem Tv.one (h:Tv V vs tr) {t u:Int} (ht:t∈tr) (hu:u∈tr) (e:t.natAbs=u.natAbs):t=u:=by
 have:t=u∨t = -u:=by omega
 rcases this with e2 | e2
 ·exact e2
 ·subst e2; exact absurd ht (h.not_both (h.trv _ hu).1 hu)
theorem ofM_ok (h:Tv V vs tr) (hn:n.natAbs≤V):ofM vs n=some (lv (va vs) n):=by
 obtain ⟨x,hx⟩:=at_lt (l:=vs) (i:=n.natAbs) (by rw [h.len]; omega)
 have hx2:=h.ok x (List.mem_of_getElem? hx)
 unfold ofM
 rw [hx]
 dsimp only
 rw [if_pos hx2]
 unfold lv va
 rw [List.getD_eq_getElem?_getD,hx]
 rfl
theorem Tv.set_ (h:Tv V vs tr) (ha:Lit V a) (hz:lv (va vs) a=0):Tv V (vs.set a.natAbs (sg a)) (tr++[a]):=by
 refine ⟨by rw [List.length_set]; exact h.len,fun x hx=>?_,fun n hn=>?_,fun n hn hv=>?_,?_⟩
 ·rcases List.mem_or_eq_of_mem_set hx with e | e
  ·exact h.ok x e
  ·subst e; unfold sg; split <;> omega
 ·rcases List.mem_append.1 hn with e | e
  ·obtain ⟨h1,h2⟩:=h.trv n e
   refine ⟨h1,?_⟩
   rw [lv_set h.len ha h1.1]
   by_cases e1:n=a
   ·rw [if_pos e1]
   ·rw [if_neg e1]
    by_cases e2:n = -a
    ·subst e2; exact absurd e (h.of_open ha hz).2
    ·rw [if_neg e2]; exact h2
  ·obtain rfl:=List.mem_singleton.1 e
   exact ⟨ha,by rw [lv_set h.len ha ha.1,if_pos rfl]⟩
 ·rw [lv_set h.len ha hn.1] at hv
  by_cases e1:n=a
  ·subst e1; exact List.mem_append_right _ (List.mem_singleton.2 rfl)
  ·rw [if_neg e1] at hv
   by_cases e2:n = -a
   ·rw [if_pos e2] at hv; exact absurd hv (by decide)
   ·rw [if_neg e2] at hv
    exact List.mem_append_left _ (h.trs n hn hv)
 ·rw [List.nodup_append]
  refine ⟨h.nd,by simp,fun x hx y hy=>?_⟩
  obtain rfl:=List.mem_singleton.1 hy
  intro e
  subst e
  exact (h.of_open ha hz).1 hx
theorem lv_unset (hl:vs.length=V+1) (ha:Lit V a) (n:Int):lv (va (vs.set a.natAbs 0)) n=if n.natAbs=a.natAbs then 0 else lv (va vs) n:=by
 have hlt:a.natAbs<vs.length:=by have:=ha.2; omega
 unfold lv
 rw [va_set hlt]
 by_cases e:n.natAbs=a.natAbs
 ·rw [if_pos e,if_pos e]; split <;> rfl
 ·rw [if_neg e,if_neg e]
theorem Tv.unset {pre r:List Int} (h:Tv V vs (pre++n::r)):Tv V (vs.set n.natAbs 0) (pre++r):=by
 have hmem:n∈pre++n::r:=List.mem_append_right _ List.mem_cons_self
 obtain ⟨hn,hv⟩:=h.trv n hmem
 have hsub:∀ x,x∈pre++r→x∈pre++n::r:=fun x hx=>by
  rcases List.mem_append.1 hx with e | e
  ·exact List.mem_append_left _ e
  ·exact List.mem_append_right _ (List.mem_cons_of_mem _ e)
 have hnd:=h.nd
 have hnot:n ∉ pre++r:=fun hx=>by
  rw [List.nodup_append,List.nodup_cons] at hnd
  rcases List.mem_append.1 hx with e | e
  ·exact hnd.2.2 n e n List.mem_cons_self rfl
  ·exact hnd.2.1.1 e
 refine ⟨by rw [List.length_set]; exact h.len,fun x hx=>?_,fun x hx=>?_,fun x hx hxv=>?_,?_⟩
 ·rcases List.mem_or_eq_of_mem_set hx with e | e
  ·exact h.ok x e
  ·subst e; exact .inr (.inl rfl)
 ·obtain ⟨h1,h2⟩:=h.trv x (hsub x hx)
  refine ⟨h1,?_⟩
  rw [lv_unset h.len hn,if_neg (fun e=>?_)]
  ·exact h2
  ·have:=h.one (hsub x hx) hmem e
   subst this
   exact hnot hx
 ·rw [lv_unset h.len hn] at hxv
  by_cases e:x.natAbs=n.natAbs
  ·rw [if_pos e] at hxv; exact absurd hxv (by decide)
  ·rw [if_neg e] at hxv
   have:=h.trs x hx hxv
   rcases List.mem_append.1 this with e2 | e2
   ·exact List.mem_append_left _ e2
   ·rcases List.mem_cons.1 e2 with e3 | e3
    ·subst e3; exact absurd rfl e
    ·exact List.mem_append_right _ e3
 ·rw [List.nodup_append] at hnd ⊢
  exact ⟨hnd.1,(List.nodup_cons.1 hnd.2.1).2,fun x hx y hy=>hnd.2.2 x hx y (List.mem_cons_of_mem _ hy)⟩
theorem nd_abs:∀ {l:List Int},l.Nodup→(∀ n∈l,Lit V n∧lv (va vs) n=1)→(l.map Int.natAbs).Nodup
 | [],_,_=>by simp
 | x::t,hnd,hv=>by
  rw [List.map_cons,List.nodup_cons]
  obtain ⟨n1,n2⟩:=List.nodup_cons.1 hnd
  refine ⟨fun hm=>?_,nd_abs n2 fun y hy=>hv y (List.mem_cons_of_mem _ hy)⟩
  obtain ⟨y,hy,e⟩:=List.mem_map.1 hm
  obtain ⟨hx0,hx1⟩:=hv x (by simp)
  obtain ⟨hy0,hy1⟩:=hv y (List.mem_cons_of_mem _ hy)
  have:y=x∨y = -x:=by omega
  rcases this with e | e
  ·subst e; exact n1 hy
  ·subst e; rw [lv_neg hx0.1] at hy1; omega
theorem Tv.le (h:Tv V vs tr):tr.length≤V:=by
 have h1:=nd_abs h.nd h.trv
 have h2:tr.map Int.natAbs ⊆ (List.range V).map (·+1):=fun v hv=>by
  obtain ⟨n,hn,e⟩:=List.mem_map.1 hv
  obtain ⟨⟨h0,h1⟩,_⟩:=h.trv n hn
  exact List.mem_map.2 ⟨v-1,List.mem_range.2 (by omega),by omega⟩
 have:=h1.length_le_of_subset h2
 simpa using this
theorem Tv.lt (h:Tv V vs tr) (hn:Lit V n) (hz:lv (va vs) n=0):tr.length<V:=by
 have:=(h.set_ hn hz).le
 rw [List.length_append,List.length_singleton] at this
 omega
end
structure Lev (V:Nat) (lvs tr:List Int) (lm:List Nat):Prop where
 len:lvs.length=V+1
 asc:∀ (i j m m':Nat),i<j→lm[i]? = some m→lm[j]? = some m'→m<m'
 lt:∀ m∈lm,m<tr.length
 lev:∀ (i:Nat) n,tr[i]? = some n→∃ L:Nat,lvs[n.natAbs]? = some (L:Int)∧L≤lm.length∧∀ (j m:Nat),lm[j]? = some m→(m≤i↔j<L)
section
variable {V:Nat} {lvs tr:List Int} {lm:List Nat} {n:Int}
theorem snoc_cases {α:Type} {l:List α} {x y:α} {i:Nat} (h:(l++[x])[i]? = some y):l[i]? = some y∨i=l.length∧y=x:=by
 by_cases hi:i<l.length
 ·rw [List.getElem?_append_left hi] at h; exact .inl h
 ·have h2:=lt_of_at h
  rw [List.length_append,List.length_singleton] at h2
  obtain rfl:i=l.length:=by omega
  rw [List.getElem?_append_right (Nat.le_refl _),Nat.sub_self] at h
  injection h with h
  exact .inr ⟨rfl,h.symm⟩
theorem snoc_left {α:Type} {l:List α} {x y:α} {i:Nat} (h:l[i]? = some y):(l++[x])[i]? = some y:=by rw [List.getElem?_append_left (lt_of_at h)]; exact h
theorem snoc_last {α:Type} {l:List α} {x:α}:(l++[x])[l.length]? = some x:=by simp
theorem Lev.set_ (h:Lev V lvs tr lm) (hn:n.natAbs≤V) (hf:∀ t∈tr,t.natAbs≠n.natAbs):Lev V (lvs.set n.natAbs (lm.length:Nat)) (tr++[n]) lm:=by
 have hl:n.natAbs<lvs.length:=by rw [h.len]; omega
 refine ⟨by rw [List.length_set]; exact h.len,h.asc,fun m hm=>by rw [List.length_append]; have:=h.lt m hm; omega,fun i t ht=>?_⟩
 rcases snoc_cases ht with e | ⟨e1,e2⟩
 ·obtain ⟨L,h1,h2,h3⟩:=h.lev i t e
  refine ⟨L,?_,h2,h3⟩
  rw [at_set hl,if_neg (hf t (List.mem_of_getElem? e))]
  exact h1
 ·subst e1; subst e2
  refine ⟨lm.length,by rw [at_set hl,if_pos rfl],Nat.le_refl _,fun j m hj=>?_⟩
  have h1:=h.lt m (List.mem_of_getElem? hj)
  have h2:=lt_of_at hj
  constructor <;> intro _ <;> omega
theorem Lev.dec (h:Lev V lvs tr lm) (hn:n.natAbs≤V) (hf:∀ t∈tr,t.natAbs≠n.natAbs):Lev V (lvs.set n.natAbs (lm.length+1:Nat)) (tr++[n]) (lm++[tr.length]):=by
 have hl:n.natAbs<lvs.length:=by rw [h.len]; omega
 refine ⟨by rw [List.length_set]; exact h.len,fun i j m m' hij hi hj=>?_,fun m hm=>?_,fun i t ht=>?_⟩
 ·rcases snoc_cases hj with e | ⟨e1,e2⟩
  ·rcases snoc_cases hi with e3 | ⟨e3,_⟩
   ·exact h.asc i j m m' hij e3 e
   ·have:=lt_of_at e; omega
  ·rcases snoc_cases hi with e3 | ⟨e3,_⟩
   ·subst e2; exact h.lt m (List.mem_of_getElem? e3)
   ·omega
 ·rw [List.length_append,List.length_singleton]
  rcases List.mem_append.1 hm with e | e
  ·have:=h.lt m e; omega
  ·obtain rfl:=List.mem_singleton.1 e; omega
 ·rcases snoc_cases ht with e | ⟨e1,e2⟩
  ·obtain ⟨L,h1,h2,h3⟩:=h.lev i t e
   refine ⟨L,?_,by rw [List.length_append]; omega,fun j m hj=>?_⟩
   ·rw [at_set hl,if_neg (hf t (List.mem_of_getElem? e))]
    exact h1
   ·rcases snoc_cases hj with e3 | ⟨e3,e4⟩
    ·exact h3 j m e3
    ·subst e4; have:=lt_of_at e
     constructor <;> intro _ <;> omega
  ·subst e1; subst e2
   refine ⟨lm.length+1,by rw [at_set hl,if_pos rfl],by simp,fun j m hj=>?_⟩
   have h2:=lt_of_at hj
   rw [List.length_append,List.length_singleton] at h2
   refine ⟨fun _=>h2,fun _=>?_⟩
   rcases snoc_cases hj with e3 | ⟨e3,e4⟩
   ·have:=h.lt m (List.mem_of_getElem? e3); omega
   ·omega
theorem take_at {α:Type} {l:List α} {m i:Nat} {x:α} (h:(l.take m)[i]? = some x):i<m∧l[i]? = some x:=by
 have h1:=lt_of_at h
 rw [List.length_take] at h1
 rw [List.getElem?_take,if_pos (by omega)] at h
 exact ⟨by omega,h⟩
theorem take_of {α:Type} {l:List α} {m i:Nat} {x:α} (hi:i<m) (h:l[i]? = some x):(l.take m)[i]? = some x:=by
 rw [List.getElem?_take,if_pos hi]; exact h
theorem Lev.cut (h:Lev V lvs tr lm) {l m:Nat} (hm:lm[l]? = some m):Lev V lvs (tr.take m) (lm.take l):=by
 refine ⟨h.len,fun i j a b hij hi hj=>h.asc i j a b hij (take_at hi).2 (take_at hj).2,fun a ha=>?_,fun i n hn=>?_⟩
 ·obtain ⟨i,hi,e⟩:=List.getElem_of_mem ha
  obtain ⟨h1,h2⟩:=take_at (List.getElem?_eq_getElem hi)
  rw [e] at h2
  have h3:=h.asc i l a m h1 h2 hm
  have h4:=h.lt m (List.mem_of_getElem? hm)
  rw [List.length_take]; omega
 ·obtain ⟨h1,h2⟩:=take_at hn
  obtain ⟨L,e1,e2,e3⟩:=h.lev i n h2
  have hL:L≤l:=by
   by_cases hc:l<L
   ·have:=(e3 l m hm).2 hc; omega
   ·omega
  refine ⟨L,e1,?_,fun j a hj=>e3 j a (take_at hj).2⟩
  rw [List.length_take]
  have:=lt_of_at hm
  omega
theorem Lev.le (h:Lev V lvs tr lm):lm.length≤tr.length:=by
 have key:∀ (i m:Nat),lm[i]? = some m→i≤m:=by
  intro i
  induction i with
  | zero=>intro m _; exact Nat.zero_le _
  | succ i ih=>
   intro m hm
   obtain ⟨m0,h0⟩:=at_lt (l:=lm) (i:=i) (by have:=lt_of_at hm; omega)
   have h1:=ih m0 h0
   have h2:=h.asc i (i+1) m0 m (by omega) h0 hm
   omega
 by_cases h0:lm.length=0
 ·omega
 ·obtain ⟨m,hm⟩:=at_lt (l:=lm) (i:=lm.length-1) (by omega)
  have h1:=key _ m hm
  have h2:=h.lt m (List.mem_of_getElem? hm)
  omega
end
def ClOk (V:Nat) (c:List Int):Prop:=2≤c.length∧c.Nodup∧∀ n∈c,Lit V n ∧ -n ∉ c
def SameC (c d:List Int):Prop:=∀ y,y∈c↔y∈d
structure Xs (V:Nat) (G xs:List (List Int)):Prop where
 ok:∀ (k:Nat) c,xs[k]? = some c→ClOk V c
 src:∀ (k:Nat) c,xs[k]? = some c→∃ d∈G,SameC c d
def PermX (xs xs':List (List Int)):Prop:=xs'.length=xs.length∧∀ (k:Nat) c,xs[k]? = some c→∃ c',xs'[k]? = some c'∧c'.Perm c
section
variable {V:Nat} {G G' xs xs' xs'':List (List Int)} {c d:List Int}
theorem PermX.refl (xs:List (List Int)):PermX xs xs:=⟨rfl,fun _ c h=>⟨c,h,List.Perm.refl _⟩⟩
theorem PermX.trans (h:PermX xs xs') (g:PermX xs' xs''):PermX xs xs'':=⟨g.1.trans h.1,fun k c hc=>by
 obtain ⟨c',h1,h2⟩:=h.2 k c hc
 obtain ⟨c'',h3,h4⟩:=g.2 k c' h1
 exact ⟨c'',h3,h4.trans h2⟩⟩
theorem PermX.set_ {k:Nat} {c c':List Int} (hc:xs[k]? = some c) (hp:c'.Perm c):PermX xs (xs.set k c'):=⟨List.length_set,fun j d hd=>by
 rw [at_set (lt_of_at hc)]
 by_cases e:j=k
 ·subst e
  rw [hc] at hd
  injection hd with hd
  subst hd
  exact ⟨c',by rw [if_pos rfl],hp⟩
 ·exact ⟨d,by rw [if_neg e]; exact hd,List.Perm.refl _⟩⟩
theorem PermX.back (h:PermX xs xs') {k:Nat} {c':List Int} (hc:xs'[k]? = some c'):∃ c,xs[k]? = some c∧c'.Perm c:=by
 obtain ⟨c,e⟩:=at_lt (l:=xs) (i:=k) (by rw [← h.1]; exact lt_of_at hc)
 obtain ⟨c2,h1,h2⟩:=h.2 k c e
 rw [hc] at h1
 injection h1 with h1
 subst h1
 exact ⟨c,e,h2⟩
theorem ClOk.perm (h:ClOk V c) (hp:d.Perm c):ClOk V d:=
 ⟨by rw [hp.length_eq]; exact h.1,hp.nodup_iff.2 h.2.1,fun n hn=>⟨(h.2.2 n (hp.mem_iff.1 hn)).1,fun h2=>(h.2.2 n (hp.mem_iff.1 hn)).2 (hp.mem_iff.1 h2)⟩⟩
theorem Xs.perm (h:Xs V G xs) (hp:PermX xs xs'):Xs V G xs':=
 ⟨fun k c hc=>by obtain ⟨d,h1,h2⟩:=hp.back hc; exact (h.ok k d h1).perm h2,
  fun k c hc=>by
  obtain ⟨d,h1,h2⟩:=hp.back hc
  obtain ⟨e,h3,h4⟩:=h.src k d h1
  exact ⟨e,h3,fun y=>h2.mem_iff.trans (h4 y)⟩⟩
theorem Xs.mono (h:Xs V G xs) (hs:∀ x∈G,x∈G'):Xs V G' xs:=⟨h.ok,fun k c hc=>by obtain ⟨d,h1,h2⟩:=h.src k c hc; exact ⟨d,hs d h1,h2⟩⟩
theorem Xs.snoc (h:Xs V G xs) (hc:ClOk V c) (hd:∃ d∈G,SameC c d):Xs V G (xs++[c]):=
 ⟨fun k x hx=>by
  rcases snoc_cases hx with e | ⟨_,e⟩
  ·exact h.ok k x e
  ·subst e; exact hc,
  fun k x hx=>by
  rcases snoc_cases hx with e | ⟨_,e⟩
  ·exact h.src k x e
  ·subst e; exact hd⟩
end
def L0 (lm:List Nat) (i:Nat):Prop:=∀ m∈lm,i<m
structure Rs (V:Nat) (G xs:List (List Int)) (rs tr:List Int) (lm:List Nat):Prop where
 len:rs.length=V+1
 rea:∀ (i:Nat) n,tr[i]? = some n→∃ r,rs[n.natAbs]? = some r∧((r = -1∧(i∈lm∨L0 lm i∧∃ d∈G,∀ y,y∈d↔y=n))∨∃ (k:Nat) (c:List Int),r=(k:Int)∧xs[k]? = some c∧n∈c∧∀ y∈c,y≠n → -y∈tr.take i)
section
variable {V:Nat} {G G' xs xs':List (List Int)} {rs tr:List Int} {lm:List Nat} {n:Int}
theorem take_snoc {α:Type} {l:List α} {x:α} {i:Nat} (h:i≤l.length):(l++[x]).take i=l.take i:=by rw [List.take_append,show i-l.length=0 by omega,List.take_zero,List.append_nil]
theorem Rs.old (h:Rs V G xs rs tr lm) (hf:∀ t∈tr,t.natAbs≠n.natAbs) {r:Int} {lm':List Nat} (hn:n.natAbs≤V) (hlm:∀ i,i<tr.length→(i∈lm→i∈lm')∧(L0 lm i→L0 lm' i)) {i:Nat} {t:Int} (ht:tr[i]? = some t) :
  ∃ r',(rs.set n.natAbs r)[t.natAbs]? = some r'∧((r' = -1∧(i∈lm'∨L0 lm' i∧∃ d∈G,∀ y,y∈d↔y=t))∨∃ (k:Nat) (c:List Int),r'=(k:Int)∧xs[k]? = some c∧t∈c∧∀ y∈c,y≠t → -y∈(tr++[n]).take i):=by
 have hl:n.natAbs<rs.length:=by rw [h.len]; omega
 have hi:=lt_of_at ht
 obtain ⟨r',h1,h2⟩:=h.rea i t ht
 refine ⟨r',by rw [at_set hl,if_neg (hf t (List.mem_of_getElem? ht))]; exact h1,?_⟩
 rw [take_snoc (by omega)]
 rcases h2 with ⟨e,e1 | ⟨e1,e2⟩⟩ | h2
 ·exact .inl ⟨e,.inl ((hlm i hi).1 e1)⟩
 ·exact .inl ⟨e,.inr ⟨(hlm i hi).2 e1,e2⟩⟩
 ·exact .inr h2
theorem Rs.by_ (h:Rs V G xs rs tr lm) (hf:∀ t∈tr,t.natAbs≠n.natAbs) (hn:n.natAbs≤V) {k:Nat} {c:List Int} (hk:xs[k]? = some c) (hc:n∈c) (ho:∀ y∈c,y≠n → -y∈tr):Rs V G xs (rs.set n.natAbs (k:Int)) (tr++[n]) lm:=by
 refine ⟨by rw [List.length_set]; exact h.len,fun i t ht=>?_⟩
 rcases snoc_cases ht with e | ⟨e1,e2⟩
 ·exact h.old hf hn (fun _ _=>⟨id,id⟩) e
 ·subst e1; subst e2
  exact ⟨_,by rw [at_set (by rw [h.len]; omega),if_pos rfl],.inr ⟨k,c,rfl,hk,hc,fun y hy hne=>by rw [take_snoc (Nat.le_refl _),List.take_length]; exact ho y hy hne⟩⟩
theorem Rs.unit_ (h:Rs V G xs rs tr []) (hf:∀ t∈tr,t.natAbs≠n.natAbs) (hn:n.natAbs≤V) (hd:∃ d∈G,∀ y,y∈d↔y=n):Rs V G xs (rs.set n.natAbs (-1)) (tr++[n]) []:=by
 refine ⟨by rw [List.length_set]; exact h.len,fun i t ht=>?_⟩
 rcases snoc_cases ht with e | ⟨e1,e2⟩
 ·exact h.old hf hn (fun _ _=>⟨id,id⟩) e
 ·subst e1; subst e2
  exact ⟨_,by rw [at_set (by rw [h.len]; omega),if_pos rfl],.inl ⟨rfl,.inr ⟨fun _ hm=>(by cases hm),hd⟩⟩⟩
theorem Rs.dec (h:Rs V G xs rs tr lm) (hf:∀ t∈tr,t.natAbs≠n.natAbs) (hn:n.natAbs≤V):Rs V G xs (rs.set n.natAbs (-1)) (tr++[n]) (lm++[tr.length]):=by
 refine ⟨by rw [List.length_set]; exact h.len,fun i t ht=>?_⟩
 rcases snoc_cases ht with e | ⟨e1,e2⟩
 ·refine h.old hf hn (fun i hi=>⟨fun e=>List.mem_append_left _ e,fun e m hm=>?_⟩) e
  rcases List.mem_append.1 hm with e2 | e2
  ·exact e m e2
  ·obtain rfl:=List.mem_singleton.1 e2; exact hi
 ·subst e1; subst e2
  exact ⟨_,by rw [at_set (by rw [h.len]; omega),if_pos rfl],.inl ⟨rfl,.inl (List.mem_append_right _ (List.mem_singleton.2 rfl))⟩⟩
theorem Rs.perm (h:Rs V G xs rs tr lm) (hp:PermX xs xs'):Rs V G xs' rs tr lm:=⟨h.len,fun i t ht=>by
 obtain ⟨r,h1,h2⟩:=h.rea i t ht
 refine ⟨r,h1,?_⟩
 rcases h2 with h2 | ⟨k,c,e1,e2,e3,e4⟩
 ·exact .inl h2
 ·obtain ⟨c',f1,f2⟩:=hp.2 k c e2
  exact .inr ⟨k,c',e1,f1,f2.mem_iff.2 e3,fun y hy=>e4 y (f2.mem_iff.1 hy)⟩⟩
theorem Rs.more (h:Rs V G xs rs tr lm) (hp:∀ (k:Nat) c,xs[k]? = some c→xs'[k]? = some c):Rs V G xs' rs tr lm:=⟨h.len,fun i t ht=>by
 obtain ⟨r,h1,h2⟩:=h.rea i t ht
 refine ⟨r,h1,?_⟩
 rcases h2 with h2 | ⟨k,c,e1,e2,e3⟩
 ·exact .inl h2
 ·exact .inr ⟨k,c,e1,hp k c e2,e3⟩⟩
theorem Rs.mono (h:Rs V G xs rs tr lm) (hs:∀ x∈G,x∈G'):Rs V G' xs rs tr lm:=⟨h.len,fun i t ht=>by
 obtain ⟨r,h1,h2⟩:=h.rea i t ht
 refine ⟨r,h1,?_⟩
 rcases h2 with ⟨e1,e2 | ⟨e2,d,e3,e4⟩⟩ | h2
 ·exact .inl ⟨e1,.inl e2⟩
 ·exact .inl ⟨e1,.inr ⟨e2,d,hs d e3,e4⟩⟩
 ·exact .inr h2⟩
theorem Rs.cut (h:Rs V G xs rs tr lm) {l m:Nat} (hm:lm[l]? = some m) (hasc:∀ (i j a b:Nat),i<j→lm[i]? = some a→lm[j]? = some b→a<b):Rs V G xs rs (tr.take m) (lm.take l):=⟨h.len,fun i t ht=>by
 obtain ⟨hi,ht⟩:=take_at ht
 obtain ⟨r,h1,h2⟩:=h.rea i t ht
 refine ⟨r,h1,?_⟩
 rcases h2 with ⟨e1,e2 | ⟨e2,e3⟩⟩ | ⟨k,c,e1,e2,e3,e4⟩
 ·refine .inl ⟨e1,.inl ?_⟩
  obtain ⟨j,hj,e⟩:=List.getElem_of_mem e2
  have hj2:lm[j]? = some i:=by rw [List.getElem?_eq_getElem hj,e]
  have hjl:j<l:=by
   by_cases hc:j<l
   ·exact hc
   ·by_cases hc2:j=l
    ·subst hc2; rw [hm] at hj2; injection hj2 with hj2; omega
    ·have:=hasc l j m i (by omega) hm hj2; omega
  exact List.mem_of_getElem? (take_of hjl hj2)
 ·exact .inl ⟨e1,.inr ⟨fun a ha=>e2 a (List.mem_of_mem_take ha),e3⟩⟩
 ·refine .inr ⟨k,c,e1,e2,e3,fun y hy hne=>?_⟩
  rw [List.take_take,Nat.min_eq_left (by omega)]
  exact e4 y hy hne⟩
end
structure Wt (xs:List (List Int)) (wt:Nat→List Nat):Prop where
 mem:∀ (i k:Nat),k∈wt i↔∃ a b t,xs[k]? = some (a::b::t)∧(ix a=i∨ix b=i)
 nd:∀ i,(wt i).Nodup
section
variable {V:Nat} {xs:List (List Int)} {wt:Nat→List Nat} {a b n:Int}
theorem ix_inj (h:ix a=ix b):a=b:=by
 unfold ix at h
 by_cases h1:a<0 <;> by_cases h2:b<0
 ·rw [if_pos h1,if_pos h2] at h; omega
 ·rw [if_pos h1,if_neg h2] at h; omega
 ·rw [if_neg h1,if_pos h2] at h; omega
 ·rw [if_neg h1,if_neg h2] at h; omega
theorem Wt.lt (h:Wt xs wt) {i k:Nat} (hk:k∈wt i):k<xs.length:=by
 obtain ⟨a,b,t,e,_⟩:=(h.mem i k).1 hk
 exact lt_of_at e
theorem Wt.le (h:Wt xs wt) (i:Nat):(wt i).length≤xs.length:=by
 have h2:wt i ⊆ List.range xs.length:=fun k hk=>List.mem_range.2 (h.lt hk)
 have:=(h.nd i).length_le_of_subset h2
 simpa using this
theorem Wt.swap {k:Nat} {t:List Int} (h:Wt xs wt) (hx:xs[k]? = some (a::b::t)):Wt (xs.set k (b::a::t)) wt:=by
 refine ⟨fun i j=>?_,h.nd⟩
 rw [h.mem,at_set (lt_of_at hx)]
 by_cases e:j=k
 ·subst e
  rw [if_pos rfl,hx]
  constructor
  ·rintro ⟨a',b',t',e,hh⟩
   injection e with e; injection e with e1 e; injection e with e2 e3
   subst e1; subst e2
   exact ⟨_,_,_,rfl,hh.symm⟩
  ·rintro ⟨a',b',t',e,hh⟩
   injection e with e; injection e with e1 e; injection e with e2 e3
   subst e1; subst e2
   exact ⟨_,_,_,rfl,hh.symm⟩
 ·rw [if_neg e]
theorem Wt.move {k j:Nat} {t:List Int} {y:Int} {p q:List Nat} (h:Wt xs wt) (hx:xs[k]? = some (a::n::t)) (hj:t[j]? = some y) (hw:wt (ix n)=p++k::q)
  (hnd:(a::n::t).Nodup):Wt (xs.set k (a::y::t.set j n)) (upd (upd wt (ix n) (p++q)) (ix y) (wt (ix y)++[k])):=by
 have hyt:y∈t:=List.mem_of_getElem? hj
 obtain ⟨n1,n2⟩:=List.nodup_cons.1 hnd
 obtain ⟨n3,n4⟩:=List.nodup_cons.1 n2
 have hya:y≠a:=fun e=>by subst e; exact n1 (List.mem_cons_of_mem _ hyt)
 have hyn:y≠n:=fun e=>by subst e; exact n3 hyt
 have hna:n≠a:=fun e=>by subst e; exact n1 List.mem_cons_self
 have iyn:ix y≠ix n:=fun e=>hyn (ix_inj e)
 have iya:ix y≠ix a:=fun e=>hya (ix_inj e)
 have ina:ix n≠ix a:=fun e=>hna (ix_inj e)
 have hkp:k ∉ p++q:=by
  have:=h.nd (ix n)
  rw [hw,List.nodup_append,List.nodup_cons] at this
  intro hm
  rcases List.mem_append.1 hm with e | e
  ·exact this.2.2 k e k List.mem_cons_self rfl
  ·exact this.2.1.1 e
 have hkey:k ∉ wt (ix y):=fun hm=>by
  obtain ⟨a',b',t',e,hh⟩:=(h.mem (ix y) k).1 hm
  rw [hx] at e
  injection e with e; injection e with e1 e; injection e with e2 e3
  subst e1; subst e2
  rcases hh with e | e
  ·exact iya e.symm
  ·exact iyn e.symm
 have hlk:=lt_of_at hx
 refine ⟨fun i k'=>?_,fun i=>?_⟩
 ·rw [at_set hlk]
  by_cases e:k'=k
  ·subst e
   rw [if_pos rfl]
   have hr:(∃ a' b' t',some (a::y::t.set j n)=some (a'::b'::t')∧(ix a'=i∨ix b'=i))↔(ix a=i∨ix y=i):=by
    constructor
    ·rintro ⟨a',b',t',e,hh⟩
     injection e with e; injection e with e1 e; injection e with e2 e3
     subst e1; subst e2
     exact hh
    ·intro hh; exact ⟨_,_,_,rfl,hh⟩
   rw [hr]
   unfold upd
   by_cases e1:i=ix y
   ·subst e1
    rw [if_pos rfl]
    simp
   ·rw [if_neg e1]
    by_cases e2:i=ix n
    ·subst e2
     rw [if_pos rfl]
     constructor
     ·intro hm; exact absurd hm hkp
     ·rintro (e | e)
      ·exact absurd e.symm ina
      ·exact absurd e iyn
    ·rw [if_neg e2,h.mem]
     constructor
     ·rintro ⟨a',b',t',e,hh⟩
      rw [hx] at e
      injection e with e; injection e with e3 e; injection e with e4 e5
      subst e3; subst e4
      rcases hh with e | e
      ·exact .inl e
      ·exact absurd e.symm e2
     ·rintro (e | e)
      ·exact ⟨_,_,_,hx,.inl e⟩
      ·exact absurd e.symm e1
  ·rw [if_neg e]
   unfold upd
   by_cases e1:i=ix y
   ·subst e1
    rw [if_pos rfl,← h.mem]
    simp [e]
   ·rw [if_neg e1]
    by_cases e2:i=ix n
    ·subst e2
     rw [if_pos rfl,← h.mem,hw]
     simp [e]
    ·rw [if_neg e2]
     exact h.mem i k'
 ·unfold upd
  by_cases e1:i=ix y
  ·rw [if_pos e1,List.nodup_append]
   refine ⟨h.nd _,by simp,fun x hx' z hz e=>?_⟩
   rw [List.mem_singleton.1 hz] at e
   exact hkey (e▸hx')
  ·rw [if_neg e1]
   by_cases e2:i=ix n
   ·rw [if_pos e2]
    have:=h.nd (ix n)
    rw [hw,List.nodup_append] at this
    rw [List.nodup_append]
    exact ⟨this.1,(List.nodup_cons.1 this.2.1).2,fun x hx z hz=>this.2.2 x hx z (List.mem_cons_of_mem _ hz)⟩
   ·rw [if_neg e2]; exact h.nd i
theorem Wt.snoc {t:List Int} (h:Wt xs wt) :
  Wt (xs++[a::b::t]) (upd (upd wt (ix a) (wt (ix a)++[xs.length])) (ix b) (wt (ix b)++[xs.length])):=by
 have hno:∀ i,xs.length ∉ wt i:=fun i hm=>absurd (h.lt hm) (Nat.lt_irrefl _)
 refine ⟨fun i k=>?_,fun i=>?_⟩
 ·by_cases e:k=xs.length
  ·subst e
   rw [snoc_last]
   have hr:(∃ a' b' t',some (a::b::t)=some (a'::b'::t')∧(ix a'=i∨ix b'=i))↔(ix a=i∨ix b=i):=by
    constructor
    ·rintro ⟨a',b',t',e,hh⟩
     injection e with e; injection e with e1 e; injection e with e2 e3
     subst e1; subst e2
     exact hh
    ·intro hh; exact ⟨_,_,_,rfl,hh⟩
   rw [hr]
   unfold upd
   by_cases e1:i=ix b
   ·subst e1; rw [if_pos rfl]; simp
   ·rw [if_neg e1]
    by_cases e2:i=ix a
    ·subst e2; rw [if_pos rfl]; simp
    ·rw [if_neg e2]
     constructor
     ·intro hm; exact absurd hm (hno i)
     ·rintro (e | e)
      ·exact absurd e.symm e2
      ·exact absurd e.symm e1
  ·have hk:∀ c,(xs++[a::b::t])[k]? = some c↔xs[k]? = some c:=fun c=>by
    constructor
    ·intro hc
     rcases snoc_cases hc with e2 | ⟨e2,_⟩
     ·exact e2
     ·exact absurd e2 e
    ·exact snoc_left
   have hr:(∃ a' b' t',(xs++[a::b::t])[k]? = some (a'::b'::t')∧(ix a'=i∨ix b'=i))↔k∈wt i:=by
    rw [h.mem]
    constructor
    ·rintro ⟨a',b',t',e,hh⟩; exact ⟨a',b',t',(hk _).1 e,hh⟩
    ·rintro ⟨a',b',t',e,hh⟩; exact ⟨a',b',t',(hk _).2 e,hh⟩
   rw [hr]
   unfold upd
   by_cases e1:i=ix b
   ·subst e1; rw [if_pos rfl]; simp [e]
   ·rw [if_neg e1]
    by_cases e2:i=ix a
    ·subst e2; rw [if_pos rfl]; simp [e]
    ·rw [if_neg e2]
 ·have hsn:∀ i,(wt i++[xs.length]).Nodup:=fun i=>by
   rw [List.nodup_append]
   refine ⟨h.nd i,by simp,fun x hx z hz=>?_⟩
   obtain rfl:=List.mem_singleton.1 hz
   intro e; subst e
   exact hno i hx
  unfold upd
  split
  ·exact hsn _
  ·split
   ·exact hsn _
   ·exact h.nd i
end
end Go.Proofs.YthkhfbofhdfdoaaGreatDoor.slv
namespace Go.Proofs.YthkhfbofhdfdoaaGreatDoor.slv
def Cov (xs:List (List Int)) (tr:List Int) (lm:List Nat) (d:List Int):Prop:=
 (∃ n∈d,-n∈d)∨(∃ (k:Nat) (c:List Int),xs[k]? = some c∧SameC c d)∨∃ (a:Int) (i:Nat),a∈d∧tr[i]? = some a∧L0 lm i
structure Inv (V:Nat) (G:List (List Int)) (s:SS):Prop where
 tv:Tv V s.vs s.tr
 le:Lev V s.lv s.tr s.lm
 rs:Rs V G s.xs s.rs s.tr s.lm
 cl:Xs V G s.xs
 hp:Hp V s.hp s.pl
 sc:Sc V s.sc s.gr
 ih:∀ v,1≤v→v≤V→va s.vs v=0→v∈s.hp
 ph:s.ph.length=V+1
 cov:s.dead=false→∀ d∈G,Cov s.xs s.tr s.lm d
 ded:s.dead=true→Ref G []
 bnd:∀ m∈s.lm,m≤s.hd∧Wi s.xs (s.tr.take m) (s.tr.take m)
structure Full (V:Nat) (G:List (List Int)) (s:SS):Prop where
 inv:Inv V G s
 wt:Wt s.xs s.wt
 wi:Wi s.xs (s.tr.take s.hd) s.tr
 hd:s.hd≤s.tr.length
structure Fra (s s':SS):Prop where
 lm:s'.lm=s.lm
 pf:s'.pf=s.pf
 dead:s'.dead=s.dead
 xs:PermX s.xs s'.xs
 tr:∃ new,s'.tr=s.tr++new
section
variable {V:Nat} {G G':List (List Int)} {s s' s'':SS} {n a:Int}
theorem Fra.refl (s:SS):Fra s s:=⟨rfl,rfl,rfl,PermX.refl _,⟨[],by simp⟩⟩
theorem Fra.trans (h:Fra s s') (g:Fra s' s''):Fra s s'':=⟨g.lm.trans h.lm,g.pf.trans h.pf,g.dead.trans h.dead,h.xs.trans g.xs,by
 obtain ⟨a,e1⟩:=h.tr
 obtain ⟨b,e2⟩:=g.tr
 exact ⟨a++b,by rw [e2,e1,List.append_assoc]⟩⟩
theorem Cov.more {xs:List (List Int)} {tr tr':List Int} {lm:List Nat} {d:List Int} (h:Cov xs tr lm d) (ht:∃ new,tr'=tr++new):Cov xs tr' lm d:=by
 rcases h with h | h | ⟨a,i,h1,h2,h3⟩
 ·exact .inl h
 ·exact .inr (.inl h)
 ·obtain ⟨new,e⟩:=ht
  exact .inr (.inr ⟨a,i,h1,by rw [e,List.getElem?_append_left (lt_of_at h2)]; exact h2,h3⟩)
theorem Cov.perm {xs xs':List (List Int)} {tr:List Int} {lm:List Nat} {d:List Int} (h:Cov xs tr lm d) (hp:PermX xs xs'):Cov xs' tr lm d:=by
 rcases h with h | ⟨k,c,h1,h2⟩ | h
 ·exact .inl h
 ·obtain ⟨c',e1,e2⟩:=hp.2 k c h1
  exact .inr (.inl ⟨k,c',e1,fun y=>e2.mem_iff.trans (h2 y)⟩)
 ·exact .inr (.inr h)
theorem Inv.room (h:Inv V G s):s.tr.length≤V∧s.lm.length≤V:=⟨h.tv.le,Nat.le_trans h.le.le h.tv.le⟩
theorem setM_do (h:Inv V G s) (ha:Lit V a) (b:Int):setM V s a b=some (setS s a b):=by
 unfold setM
 rw [if_pos ⟨by have:=ha.1; omega,ha.2,h.room.1,h.room.2⟩]
theorem va_set_ne {vs:List Int} (hl:vs.length=V+1) (ha:Lit V a) {v:Nat} (h:va (vs.set a.natAbs (sg a)) v=0):va vs v=0:=by
 rw [va_set (by have:=ha.2; omega)] at h
 by_cases e:v=a.natAbs
 ·rw [if_pos e] at h; unfold sg at h; split at h <;> exact absurd h (by decide)
 ·rw [if_neg e] at h; exact h
theorem Inv.setBy (h:Inv V G s) (ha:Lit V a) (hz:lv (va s.vs) a=0) {k:Nat} {c:List Int} (hk:s.xs[k]? = some c) (hc:a∈c) (ho:∀ y∈c,y≠a → -y∈s.tr):Inv V G (setS s a (k:Int)):=by
 have hf:∀ t∈s.tr,t.natAbs≠a.natAbs:=fun t ht=>h.tv.fresh ha hz ht
 exact {
  tv:=h.tv.set_ ha hz
  le:=h.le.set_ ha.2 hf
  rs:=h.rs.by_ hf ha.2 hk hc ho
  cl:=h.cl
  hp:=h.hp
  sc:=h.sc
  ih:=fun v v1 v2 v3=>h.ih v v1 v2 (va_set_ne h.tv.len ha v3)
  ph:=by show (s.ph.set _ _).length=_; rw [List.length_set]; exact h.ph
  cov:=fun e d hd=>(h.cov e d hd).more ⟨[a],rfl⟩
  ded:=h.ded
  bnd:=fun m hm=>⟨(h.bnd m hm).1,by
   show Wi s.xs ((s.tr++[a]).take m) ((s.tr++[a]).take m)
   rw [take_snoc (Nat.le_of_lt (h.le.lt m hm))]
   exact (h.bnd m hm).2⟩ }
theorem Inv.clauses (h:Inv V G s) {xs':List (List Int)} (wt':Nat→List Nat) (hp:PermX s.xs xs') (hw:∀ m∈s.lm,Wi xs' (s.tr.take m) (s.tr.take m)):Inv V G { s with xs:=xs',wt:=wt' }:=
 {tv:=h.tv,le:=h.le,rs:=h.rs.perm hp,cl:=h.cl.perm hp,hp:=h.hp,sc:=h.sc,ih:=h.ih,ph:=h.ph
  cov:=fun e d hd=>(h.cov e d hd).perm hp
  ded:=h.ded
  bnd:=fun m hm=>⟨(h.bnd m hm).1,hw m hm⟩ }
structure SJ (V:Nat) (G:List (List Int)) (s0 s:SS) (h:Nat) (n:Int) (kept rest:List Nat):Prop where
 inv:Inv V G s
 hd:s.hd=h+1
 at_:s.tr[h]? = some (-n)
 wt:Wt s.xs (upd s.wt (ix n) (kept++rest))
 wi:Wi s.xs (s.tr.take h) s.tr
 kp:Kp kept s.xs n s.tr
 fr:Fra s0 s
variable {s0:SS} {h:Nat} {kept rest:List Nat} {k:Nat} {t:List Int}
theorem SJ.mem (j:SJ V G s0 s h n kept rest) : -n∈s.tr:=List.mem_of_getElem? j.at_
theorem SJ.lit (j:SJ V G s0 s h n kept rest):Lit V n:=by
 have:=(j.inv.tv.trv _ j.mem).1.neg
 rwa [Int.neg_neg] at this
theorem SJ.val (j:SJ V G s0 s h n kept rest):lv (va s.vs) n = -1:=j.inv.tv.neg_val j.lit j.mem
theorem SJ.notin (j:SJ V G s0 s h n kept rest):n ∉ s.tr:=fun h1=>j.inv.tv.not_both j.lit h1 j.mem
theorem upd_same (wt:Nat→List Nat) (i:Nat) (l:List Nat):upd wt i l i=l:=by simp [upd]
theorem updSelf (wt:Nat→List Nat) (i:Nat):upd wt i (wt i)=wt:=by
 funext j
 unfold upd
 split
 ·rename_i e; rw [e]
 ·rfl
theorem upd_twice (wt:Nat→List Nat) (i:Nat) (l l':List Nat):upd (upd wt i l) i l'=upd wt i l':=by
 funext j
 unfold upd
 split <;> rfl
theorem upd_comm (wt:Nat→List Nat) {i j:Nat} (l l':List Nat) (h:i≠j):upd (upd wt i l) j l'=upd (upd wt j l') i l:=by
 funext x
 unfold upd
 by_cases e1:x=j
 ·subst e1; rw [if_pos rfl,if_neg (fun e=>h e.symm),if_pos rfl]
 ·rw [if_neg e1]
  by_cases e2:x=i
  ·rw [if_pos e2]; rw [if_pos e2]
  ·rw [if_neg e2,if_neg e2,if_neg e1]
theorem upd_ne {wt:Nat→List Nat} {i j:Nat} {l:List Nat} (h:j≠i):upd wt i l j=wt j:=by simp [upd,h]
theorem SJ.knot (j:SJ V G s0 s h n kept (k::rest)):k ∉ kept:=fun hk=>by
 have:=j.wt.nd (ix n)
 rw [upd_same,List.nodup_append] at this
 exact this.2.2 k hk k List.mem_cons_self rfl
theorem SJ.swap (j:SJ V G s0 s h n kept (k::rest)):∃ c0 a t,s.xs[k]? = some c0∧swap2 n c0=a::n::t∧SJ V G s0 { s with xs:=s.xs.set k (a::n::t) } h n kept (k::rest)∧(s.xs.set k (a::n::t))[k]? = some (a::n::t)∧ClOk V (a::n::t):=by
 have hm:k∈upd s.wt (ix n) (kept++k::rest) (ix n):=by rw [upd_same]; exact List.mem_append_right _ List.mem_cons_self
 obtain ⟨a0,b0,t,e,hh⟩:=(j.wt.mem (ix n) k).1 hm
 have hok:=j.inv.cl.ok k _ e
 have hlk:=lt_of_at e
 by_cases ea:a0=n
 ·subst ea
  refine ⟨_,b0,t,e,by show (if a0=a0 then b0::a0::t else a0::b0::t)=_; rw [if_pos rfl],?_,by rw [at_set hlk,if_pos rfl],hok.perm (List.Perm.swap _ _ _)⟩
  have hp:PermX s.xs (s.xs.set k (b0::a0::t)):=PermX.set_ e (List.Perm.swap _ _ _)
  exact {
   inv:=j.inv.clauses s.wt hp (fun m hm=>((j.inv.bnd m hm).2).swap e)
   hd:=j.hd
   at_:=j.at_
   wt:=j.wt.swap e
   wi:=j.wi.swap e
   kp:=j.kp.set_ j.knot
   fr:=⟨j.fr.lm,j.fr.pf,j.fr.dead,j.fr.xs.trans hp,j.fr.tr⟩ }
 ·obtain rfl:b0=n:=by
   rcases hh with h1 | h1
   ·exact absurd (ix_inj h1) ea
   ·exact ix_inj h1
  have es:s.xs.set k (a0::b0::t)=s.xs:=setSelf e
  refine ⟨_,a0,t,e,by show (if a0=b0 then b0::a0::t else a0::b0::t)=_; rw [if_neg ea],?_,by rw [es]; exact e,hok⟩
  rw [es]
  exact j
theorem seekM_ok {vs tr:List Int} (hv:Tv V vs tr):∀ {t:List Int},(∀ y∈t,Lit V y)→∃ j,seekM vs t=some j∧j≤t.length∧(∀ y∈t.take j,lv (va vs) y = -1)∧∀ y,t[j]? = some y→lv (va vs) y ≠ -1
 | [],_=>⟨0,rfl,Nat.le_refl _,fun y hy=>(by simp at hy),fun y hy=>(by simp at hy)⟩
 | a::r,hl=>by
  unfold seekM
  rw [ofM_ok hv (hl a List.mem_cons_self).2]
  dsimp only
  by_cases e:lv (va vs) a = -1
  ·rw [if_pos e]
   obtain ⟨j,e1,e2,e3,e4⟩:=seekM_ok hv (t:=r) fun y hy=>hl y (List.mem_cons_of_mem _ hy)
   rw [e1]
   refine ⟨j+1,rfl,by simp; omega,fun y hy=>?_,fun y hy=>e4 y (by simpa using hy)⟩
   rw [List.take_succ_cons] at hy
   rcases List.mem_cons.1 hy with e5 | e5
   ·subst e5; exact e
   ·exact e3 y e5
  ·rw [if_neg e]
   refine ⟨0,rfl,Nat.zero_le _,fun y hy=>(by simp at hy),fun y hy=>?_⟩
   injection hy with hy
   subst hy; exact e
structure Cfl (V:Nat) (G:List (List Int)) (s:SS) (k:Nat):Prop where
 inv:Inv V G s
 cl:∃ c,s.xs[k]? = some c∧∀ y∈c,-y∈s.tr
theorem spr1_ok (j:SJ V G s0 s h n kept (k::rest)) (hsz:s.xs.length<4000000) :
  ∃ R,spr1 V n k rest kept s=some R∧match R with
   | .go l s'=>SJ V G s0 s' h n l rest
   | .bad k' l s'=>Cfl V G s' k'∧Fra s0 s'∧Wt s'.xs (upd s'.wt (ix n) l):=by
 obtain ⟨c0,a,t,e0,e1,j1,hk1,hok⟩:=j.swap
 have hla:Lit V a:=(hok.2.2 a (by simp)).1
 have hne:a≠n:=fun e=>by subst e; exact (List.nodup_cons.1 hok.2.1).1 List.mem_cons_self
 have hlt:∀ y∈t,Lit V y:=fun y hy=>(hok.2.2 y (by simp [hy])).1
 unfold spr1
 rw [e0]
 dsimp only
 rw [e1]
 dsimp only
 rw [ofM_ok j.inv.tv hla.2]
 dsimp only
 by_cases x1:lv (va s.vs) a=1
 ·rw [if_pos x1]
  refine ⟨_,rfl,?_⟩
  have haT:a∈s.tr:=j.inv.tv.trs a hla x1
  exact { inv:=j1.inv,hd:=j1.hd,at_:=j1.at_,wt:=by rw [List.append_assoc]; exact j1.wt,wi:=j1.wi,kp:=j1.kp.snoc hk1 haT hne,fr:=j1.fr }
 ·rw [if_neg x1]
  obtain ⟨q,eq,q1,q2,q3⟩:=seekM_ok j.inv.tv hlt
  rw [eq]
  dsimp only
  cases hy:t[q]? with
  | some y=>
   dsimp only
   have hyt:y∈t:=List.mem_of_getElem? hy
   have hyv:=q3 y hy
   have hyl:=hlt y hyt
   have hyn:y≠n:=fun e=>by subst e; exact hyv j.val
   have hix:ix y≠ix n:=fun e=>hyn (ix_inj e)
   have hwy:upd s.wt (ix n) (kept++k::rest) (ix y)=s.wt (ix y):=upd_ne hix
   have hle:=j.wt.le (ix y)
   rw [hwy] at hle
   rw [if_pos ⟨hyl.2,hix,by omega⟩]
   refine ⟨_,rfl,?_⟩
   have hyF : -y ∉ s.tr:=fun hm=>hyv (j.inv.tv.neg_val hyl hm)
   have hnn:=j.notin
   have es:s.xs.set k (a::y::t.set q n)=(s.xs.set k (a::n::t)).set k (a::y::t.set q n):=by rw [List.set_set]
   have hp:PermX (s.xs.set k (a::n::t)) (s.xs.set k (a::y::t.set q n)):=by rw [es]; exact PermX.set_ hk1 (perm_move hy).symm
   have hwm:=j1.wt.move (p:=kept) (q:=rest) hk1 hy (by rw [upd_same]) hok.2.1
   rw [upd_twice] at hwm
   rw [show (upd s.wt (ix n) (kept++k::rest)) (ix y)=s.wt (ix y) from hwy] at hwm
   exact {
    inv:=j1.inv.clauses _ hp (fun m hm=>by
     rw [es]
     exact ((j1.inv.bnd m hm).2).move hk1 (fun e=>hnn (List.mem_of_mem_take e)) (fun e=>hyF (List.mem_of_mem_take e)))
    hd:=j.hd
    at_:=j.at_
    wt:=by
     show Wt (s.xs.set k (a::y::t.set q n)) (upd (upd s.wt (ix y) (s.wt (ix y)++[k])) (ix n) (kept++rest))
     rw [es,upd_comm _ _ _ hix]
     exact hwm
    wi:=by
     show Wi (s.xs.set k (a::y::t.set q n)) _ _
     rw [es]
     exact j1.wi.move hk1 hnn (fun e=>hyF (List.mem_of_mem_take e))
    kp:=by
     show Kp kept (s.xs.set k (a::y::t.set q n)) n s.tr
     exact j.kp.set_ j.knot
    fr:=⟨j1.fr.lm,j1.fr.pf,j1.fr.dead,j1.fr.xs.trans hp,j1.fr.tr⟩ }
  | none=>
   dsimp only
   have hq:q=t.length:=by have:=List.getElem?_eq_none_iff.1 hy; omega
   have hall:∀ y∈t,-y∈s.tr:=fun y hyt=>j.inv.tv.val_neg (hlt y hyt) (q2 y (by rw [hq,List.take_length]; exact hyt))
   by_cases x2:lv (va s.vs) a = -1
   ·rw [if_pos x2]
    refine ⟨_,rfl,⟨j1.inv,_,hk1,fun y hyc=>?_⟩,j1.fr,by rw [List.append_assoc]; exact j1.wt⟩
    rcases List.mem_cons.1 hyc with e | hyc
    ·subst e; exact j.inv.tv.val_neg hla x2
    ·rcases List.mem_cons.1 hyc with e | hyc
     ·subst e; exact j.mem
     ·exact hall y hyc
   ·rw [if_neg x2]
    have x0:lv (va s.vs) a=0:=by rcases j.inv.tv.cases a with e | e | e <;> omega
    rw [setM_do j1.inv hla]
    refine ⟨_,rfl,?_⟩
    have hinv:=j1.inv.setBy hla x0 hk1 List.mem_cons_self (fun y hyc hya=>by
     rcases List.mem_cons.1 hyc with e | hyc
     ·exact absurd e hya
     ·rcases List.mem_cons.1 hyc with e | hyc
      ·subst e; exact j.mem
      ·exact hall y hyc)
    have hsub:∀ x∈s.tr,x∈s.tr++[a]:=fun x hx=>List.mem_append_left _ hx
    have hh:=lt_of_at j.at_
    exact {
     inv:=hinv
     hd:=j1.hd
     at_:=snoc_left j.at_
     wt:=by rw [List.append_assoc]; exact j1.wt
     wi:=by
      show Wi (s.xs.set k (a::n::t)) ((s.tr++[a]).take h) (s.tr++[a])
      rw [take_snoc (by omega)]
      exact j1.wi.mono hsub
     kp:=(j1.kp.mono hsub).snoc hk1 (List.mem_append_right _ (List.mem_singleton.2 rfl)) hne
     fr:=⟨j1.fr.lm,j1.fr.pf,j1.fr.dead,j1.fr.xs,by
      obtain ⟨new,e⟩:=j1.fr.tr
      exact ⟨new++[a],by show s.tr++[a]=_; rw [show s.tr=s0.tr++new from e,List.append_assoc]⟩⟩ }
theorem sprI_ok:∀ {rest kept:List Nat} {s:SS},SJ V G s0 s h n kept rest→s.xs.length<4000000 →
  ∃ R,sprI V n rest kept s=some R∧match R with
   | .go l s'=>SJ V G s0 s' h n l []
   | .bad k' l s'=>Cfl V G s' k'∧Fra s0 s'∧Wt s'.xs (upd s'.wt (ix n) l)
 | [],kept,s,j,_=>⟨_,rfl,j⟩
 | k::r,kept,s,j,hsz=>by
  obtain ⟨R,e,hR⟩:=spr1_ok j hsz
  unfold sprI
  rw [e]
  cases R with
  | bad k' l s'=>exact ⟨_,rfl,hR⟩
  | go l s'=>
   dsimp only at hR ⊢
   exact sprI_ok hR (by rw [hR.fr.xs.1,← j.fr.xs.1]; exact hsz)
theorem SJ.stop (j:SJ V G s0 s h n kept []):Full V G { s with wt:=upd s.wt (ix n) kept }:=by
 have hw:=j.wt
 rw [List.append_nil] at hw
 have hh:=lt_of_at j.at_
 refine ⟨j.inv.clauses _ (PermX.refl _) fun m hm=>(j.inv.bnd m hm).2,hw,?_,by show s.hd≤s.tr.length; rw [j.hd]; omega⟩
 show Wi s.xs (s.tr.take s.hd) s.tr
 rw [j.hd]
 intro k a b r hk
 have key:∀ x,-x∈s.tr.take (h+1) → -x∈s.tr.take h∨x=n:=fun x hx=>by
  rw [List.take_add_one,j.at_] at hx
  rcases List.mem_append.1 hx with e | e
  ·exact .inl e
  ·have:=List.mem_singleton.1 (by simpa using e); exact .inr (by omega)
 have hkk:a=n∨b=n→k∈kept:=fun e=>by
  have:=(hw.mem (ix n) k).2 ⟨a,b,r,hk,by rcases e with e | e <;> subst e <;> simp⟩
  rwa [upd_same] at this
 refine ⟨fun hf=>?_,fun hf=>?_⟩
 ·rcases key a hf with e | e
  ·exact (j.wi k a b r hk).1 e
  ·exact (j.kp k (hkk (.inl e)) a b r hk).1 e
 ·rcases key b hf with e | e
  ·exact (j.wi k a b r hk).2 e
  ·exact (j.kp k (hkk (.inr e)) a b r hk).2 e
def SpE (V:Nat) (G:List (List Int)) (s0:SS):Option Nat→SS→Prop
 | none,s=>Full V G s∧s.hd=s.tr.length∧Fra s0 s
 | some k,s=>Cfl V G s k∧Wt s.xs s.wt∧Fra s0 s
theorem sprL_ok:∀ {f:Nat} {s:SS},V+1<f+s.hd→Full V G s→s.xs.length<4000000→Fra s0 s→∃ r s',sprL V f s=some (r,s')∧SpE V G s0 r s'
 | 0,s,hf,hs,_,_=>absurd hf (by have:=hs.hd; have:=hs.inv.room.1; omega)
 | f+1,s,hf,hs,hsz,hfr=>by
  unfold sprL
  cases ht:s.tr[s.hd]? with
  | none=>
   have:=List.getElem?_eq_none_iff.1 ht
   dsimp only
   rw [if_pos this]
   exact ⟨_,_,rfl,hs,Nat.le_antisymm hs.hd this,hfr⟩
  | some t=>
   dsimp only
   have htl:=(hs.inv.tv.trv t (List.mem_of_getElem? ht)).1
   rw [if_pos htl.2]
   have j:SJ V G s0 { s with hd:=s.hd+1 } s.hd (-t) [] (s.wt (ix (-t))):={
    inv:={
     tv:=hs.inv.tv,le:=hs.inv.le,rs:=hs.inv.rs,cl:=hs.inv.cl,hp:=hs.inv.hp,sc:=hs.inv.sc,ih:=hs.inv.ih,ph:=hs.inv.ph,cov:=hs.inv.cov,ded:=hs.inv.ded
     bnd:=fun m hm=>⟨Nat.le_succ_of_le (hs.inv.bnd m hm).1,(hs.inv.bnd m hm).2⟩ }
    hd:=rfl
    at_:=by rw [Int.neg_neg]; exact ht
    wt:=by rw [List.nil_append]; show Wt s.xs (upd s.wt _ (s.wt _)); rw [updSelf]; exact hs.wt
    wi:=hs.wi
    kp:=fun _ hm=>(by cases hm)
    fr:=⟨hfr.lm,hfr.pf,hfr.dead,hfr.xs,hfr.tr⟩ }
   obtain ⟨R,e,hR⟩:=sprI_ok j hsz
   rw [e]
   cases R with
   | bad k l s2=>
    dsimp only at hR ⊢
    obtain ⟨h1,h2,h3⟩:=hR
    refine ⟨_,_,rfl,⟨h1.inv.clauses _ (PermX.refl _) fun m hm=>(h1.inv.bnd m hm).2,h1.cl⟩,h3,⟨h2.lm,h2.pf,h2.dead,h2.xs,h2.tr⟩⟩
   | go l s2=>
    dsimp only at hR ⊢
    have h2:=hR.fr
    exact sprL_ok (f:=f) (by show V+1<f+s2.hd; rw [hR.hd]; omega) hR.stop (by show s2.xs.length<_; rw [h2.xs.1,← hfr.xs.1]; exact hsz) ⟨h2.lm,h2.pf,h2.dead,h2.xs,h2.tr⟩
theorem spreadM_ok (hs:Full V G s) (hsz:s.xs.length<4000000):∃ r s',spreadM V s=some (r,s')∧SpE V G s r s':=sprL_ok (by omega) hs hsz (Fra.refl s)
end
end Go.Proofs.YthkhfbofhdfdoaaGreatDoor.slv
namespace Go.Proofs.YthkhfbofhdfdoaaGreatDoor.slv
section
variable {V:Nat} {lvs tr:List Int} {lm:List Nat} {b:Nat}
def LastB (lm:List Nat) (b:Nat):Prop:=lm≠[]∧lm[lm.length-1]? = some b
theorem Lev.cur (h:Lev V lvs tr lm) (hb:LastB lm b) {i:Nat} {n:Int} (hi:tr[i]? = some n):∃ L:Nat,lvs[n.natAbs]? = some (L:Int)∧L≤lm.length∧(L=lm.length↔b≤i)∧(L=0↔L0 lm i)∧∀ (j m:Nat),lm[j]? = some m→(m≤i↔j<L):=by
 obtain ⟨L,h1,h2,h3⟩:=h.lev i n hi
 have hl:0<lm.length:=List.length_pos_iff.2 hb.1
 have h4:=h3 _ b hb.2
 refine ⟨L,h1,h2,?_,?_,h3⟩
 ·rw [h4]; omega
 ·constructor
  ·intro e m hm
   obtain ⟨j,hj,e2⟩:=List.getElem_of_mem hm
   have:=h3 j m (by rw [List.getElem?_eq_getElem hj,e2])
   omega
  ·intro e
   obtain ⟨m,hm⟩:=at_lt hl
   have h5:=h3 0 m hm
   have h6:=e m (List.mem_of_getElem? hm)
   omega
theorem LastB.max (h:Lev V lvs tr lm) (hb:LastB lm b) {m:Nat} (hm:m∈lm):m≤b:=by
 obtain ⟨j,hj,e⟩:=List.getElem_of_mem hm
 have hj2:lm[j]? = some m:=by rw [List.getElem?_eq_getElem hj,e]
 by_cases hc:j=lm.length-1
 ·subst hc; rw [hb.2] at hj2; injection hj2 with hj2; omega
 ·have:=h.asc j (lm.length-1) m b (by omega) hj2 hb.2; omega
theorem LastB.mem (hb:LastB lm b):b∈lm:=List.mem_of_getElem? hb.2
end
def snB (seen:List Bool) (v:Nat):Bool:=seen.getD v false
def cnt (tr:List Int) (b:Nat) (seen:List Bool):Nat→Nat
 | 0=>0
 | i+1=>cnt tr b seen i+if b≤i∧snB seen (tr.getD i 0).natAbs=true then 1 else 0
section
variable {tr:List Int} {b:Nat} {seen:List Bool}
theorem cnt_le:∀ (a:Nat),cnt tr b seen a≤a
 | 0=>Nat.le_refl _
 | a+1=>by
  have:=cnt_le a
  unfold cnt
  split <;> omega
theorem cnt_mono {a:Nat}:∀ {c:Nat},a≤c→cnt tr b seen a≤cnt tr b seen c
 | 0,h=>by
  obtain rfl:a=0:=by omega
  exact Nat.le_refl _
 | c+1,h=>by
  by_cases e:a=c+1
  ·subst e; exact Nat.le_refl _
  ·have:=cnt_mono (c:=c) (a:=a) (by omega)
   show _≤cnt tr b seen c+_
   omega
theorem cnt_low:∀ {a:Nat},a≤b→cnt tr b seen a=0
 | 0,_=>rfl
 | a+1,h=>by
  show cnt tr b seen a+_=0
  rw [cnt_low (by omega),if_neg (by omega)]
theorem snB_set {v u:Nat} (hv:v<seen.length):snB (seen.set v true) u=if u=v then true else snB seen u:=by
 unfold snB
 rw [List.getD_eq_getElem?_getD,at_set hv,List.getD_eq_getElem?_getD]
 split <;> rfl
theorem snB_at {v:Nat} {x:Bool} (h:seen[v]? = some x):snB seen v=x:=by
 unfold snB; rw [List.getD_eq_getElem?_getD,h]; rfl
theorem at_snB {v:Nat} (h:v<seen.length):seen[v]? = some (snB seen v):=by
 obtain ⟨x,hx⟩:=at_lt h
 rw [snB_at hx]; exact hx
theorem getD_at {i:Nat} {u:Int} (h:tr[i]? = some u):tr.getD i 0=u:=by rw [List.getD_eq_getElem?_getD,h]; rfl
theorem cnt_other {v:Nat} (hv:v<seen.length):∀ {a:Nat},(∀ i,i<a→b≤i→(tr.getD i 0).natAbs≠v)→cnt tr b (seen.set v true) a=cnt tr b seen a
 | 0,_=>rfl
 | a+1,h=>by
  show cnt tr b (seen.set v true) a+_=cnt tr b seen a+_
  rw [cnt_other hv (a:=a) fun i hi hb=>h i (by omega) hb]
  congr 1
  by_cases hb:b≤a
  ·rw [snB_set hv,if_neg (h a (by omega) hb)]
  ·rw [if_neg (by omega),if_neg (by omega)]
theorem cnt_one {v:Nat} (hv:v<seen.length) (hs:snB seen v=false):∀ {a p:Nat},p<a→b≤p→(tr.getD p 0).natAbs=v→(∀ i,i<a→i≠p→(tr.getD i 0).natAbs≠v)→cnt tr b (seen.set v true) a=cnt tr b seen a+1
 | 0,_,h,_,_,_=>absurd h (Nat.not_lt_zero _)
 | a+1,p,h,hb,he,ho=>by
  show cnt tr b (seen.set v true) a+_=cnt tr b seen a+_+1
  by_cases e:p=a
  ·subst e
   rw [cnt_other hv fun i hi _=>ho i (by omega) (by omega),if_pos ⟨hb,by rw [snB_set hv,if_pos he]⟩,if_neg (by rw [he,hs]; simp)]
  ·rw [cnt_one hv hs (by omega) hb he fun i hi hp=>ho i (by omega) hp]
   have:snB (seen.set v true) (tr.getD a 0).natAbs=snB seen (tr.getD a 0).natAbs:=by rw [snB_set hv,if_neg (ho a (by omega) (by omega))]
   rw [this]
   omega
theorem cnt_pos:∀ {a:Nat},0<cnt tr b seen a→∃ i,i<a∧b≤i∧snB seen (tr.getD i 0).natAbs=true
 | 0,h=>absurd h (Nat.lt_irrefl _)
 | a+1,h=>by
  by_cases e:b≤a∧snB seen (tr.getD a 0).natAbs=true
  ·exact ⟨a,by omega,e⟩
  ·have h2:0<cnt tr b seen a+if b≤a∧snB seen (tr.getD a 0).natAbs=true then 1 else 0:=h
   rw [if_neg e] at h2
   obtain ⟨i,h3,h4⟩:=cnt_pos (a:=a) h2
   exact ⟨i,by omega,h4⟩
theorem pos_cnt {a i:Nat} (hi:i<a) (hb:b≤i) (hs:snB seen (tr.getD i 0).natAbs=true):0<cnt tr b seen a:=by
 have h1:cnt tr b seen (i+1)=cnt tr b seen i+1:=by
  show cnt tr b seen i+_=_
  rw [if_pos ⟨hb,hs⟩]
 have h2:=cnt_mono (tr:=tr) (b:=b) (seen:=seen) (a:=i+1) (c:=a) (by omega)
 omega
theorem cnt_gap {c:Nat}:∀ {a:Nat},c≤a→(∀ i,c≤i→i<a→snB seen (tr.getD i 0).natAbs=false)→cnt tr b seen a=cnt tr b seen c
 | 0,h,_=>by
  obtain rfl:c=0:=by omega
  rfl
 | a+1,h,hg=>by
  by_cases e:c=a+1
  ·subst e; rfl
  ·show cnt tr b seen a+_=_
   rw [cnt_gap (c:=c) (a:=a) (by omega) fun i h1 h2=>hg i h1 (by omega),if_neg (by rw [hg a (by omega) (by omega)]; simp)]
   omega
end
def Bs (V:Nat) (s0 s:SS):Prop:=∃ sc gr hp pl,s={ s0 with sc:=sc,gr:=gr,hp:=hp,pl:=pl }∧Hp V hp pl∧hp.Perm s0.hp∧Sc V sc gr
theorem Bs.bump {V v:Nat} {s0 s:SS} (h:Bs V s0 s) (v1:1≤v) (v2:v≤V):∃ s',bumpM V s v=some s'∧Bs V s0 s':=by
 obtain ⟨sc,gr,hp,pl,rfl,h1,h2,h3⟩:=h
 obtain ⟨sc',gr',hp',pl',e,g1,g2,g3⟩:=bumpM_ok (s:={ s0 with sc:=sc,gr:=gr,hp:=hp,pl:=pl }) h1 h3 v1 v2
 exact ⟨_,e,sc',gr',hp',pl',rfl,g1,g2.trans h2,g3⟩
theorem Bs.inv {V:Nat} {G:List (List Int)} {s0 s:SS} (h:Bs V s0 s) (hi:Inv V G s0):Inv V G s:=by
 obtain ⟨sc,gr,hp,pl,rfl,h1,h2,h3⟩:=h
 exact { tv:=hi.tv,le:=hi.le,rs:=hi.rs,cl:=hi.cl,hp:=h1,sc:=h3,ih:=fun v v1 v2 v3=>h2.mem_iff.2 (hi.ih v v1 v2 v3),ph:=hi.ph,cov:=hi.cov,ded:=hi.ded,bnd:=hi.bnd }
theorem Bs.lv {V:Nat} {s0 s:SS} (h:Bs V s0 s):s.lv=s0.lv∧s.tr=s0.tr∧s.lm=s0.lm∧s.xs=s0.xs∧s.rs=s0.rs∧s.pf=s0.pf∧s.dead=s0.dead∧s.wt=s0.wt∧s.vs=s0.vs∧s.hd=s0.hd:=by
 obtain ⟨sc,gr,hp,pl,rfl,_⟩:=h
 exact ⟨rfl,rfl,rfl,rfl,rfl,rfl,rfl,rfl,rfl,rfl⟩
section
variable {V:Nat} {G:List (List Int)} {s0:SS} {b:Nat}
def FalseBy (tr:List Int) (a:Nat) (y:Int) (i:Nat):Prop:=i<a∧tr[i]? = some (-y)
structure LI (V:Nat) (s0:SS) (b at_:Nat) (l:LS):Prop where
 bs:Bs V s0 l.s
 sl:l.seen.length=V+1
 sv:∀ v,snB l.seen v=true→∃ i u,s0.tr[i]? = some u∧u.natAbs=v∧¬ L0 s0.lm i
 op:l.op=cnt s0.tr b l.seen at_
 out:∃ r,l.out=0::r∧r.Nodup∧(∀ x∈r,∃ i,s0.tr[i]? = some (-x)∧i<b∧¬ L0 s0.lm i∧snB l.seen x.natAbs=true)∧∀ i u,s0.tr[i]? = some u→i<b→snB l.seen u.natAbs=true → -u∈r
def Okk (s0:SS) (l:LS) (y:Int):Prop:=∃ i,s0.tr[i]? = some (-y)∧(L0 s0.lm i∨snB l.seen y.natAbs=true)
theorem idx_one (h:Inv V G s0) {i j:Nat} {u t:Int} (hi:s0.tr[i]? = some u) (hj:s0.tr[j]? = some t) (e:u.natAbs=t.natAbs):i=j:=by
 have:=h.tv.one (List.mem_of_getElem? hi) (List.mem_of_getElem? hj) e
 subst this
 have hnd:=h.tv.nd
 rw [List.nodup_iff_pairwise_ne,List.pairwise_iff_getElem] at hnd
 have li:=lt_of_at hi
 have lj:=lt_of_at hj
 have ei:s0.tr[i]=u:=by rw [List.getElem?_eq_getElem li] at hi; injection hi
 have ej:s0.tr[j]=u:=by rw [List.getElem?_eq_getElem lj] at hj; injection hj
 by_cases c:i<j
 ·exact absurd (ei.trans ej.symm) (hnd i j li lj c)
 ·by_cases c2:j<i
  ·exact absurd (ej.trans ei.symm) (hnd j i lj li c2)
  ·omega
theorem lcl_ok (h:Inv V G s0) (hb:LastB s0.lm b) (hV:V≤400000) {n:Int} {at_:Nat} (hat:at_≤s0.tr.length):∀ {c:List Int} {l:LS},LI V s0 b at_ l→(∀ y∈c,Lit V y)→(∀ y∈c,y≠n→∃ i,FalseBy s0.tr at_ y i) →
  ∃ l',lcl V n c l=some l'∧LI V s0 b at_ l'∧(∀ y∈c,y≠n→Okk s0 l' y)∧(∀ v,snB l.seen v=true→snB l'.seen v=true)∧∀ i u,s0.tr[i]? = some u→snB l'.seen u.natAbs=true→snB l.seen u.natAbs=true∨i<at_
 | [],l,hl,_,_=>⟨l,rfl,hl,fun _ hy=>(by cases hy),fun _ hv=>hv,fun _ _ _ hv=>.inl hv⟩
 | x::r,l,hl,hlit,hf=>by
  have hx:=hlit x List.mem_cons_self
  have hx0:=hx.1
  have hxs:x.natAbs<l.seen.length:=by rw [hl.sl]; have:=hx.2; omega
  obtain ⟨v,hv⟩:=at_lt (l:=s0.lv) (i:=x.natAbs) (by rw [h.le.len]; have:=hx.2; omega)
  unfold lcl
  rw [at_snB hxs,hl.bs.lv.1,hv]
  dsimp only
  have hrl:∀ y∈r,Lit V y:=fun y hy=>hlit y (List.mem_cons_of_mem _ hy)
  have hrf:∀ y∈r,y≠n→∃ i,FalseBy s0.tr at_ y i:=fun y hy=>hf y (List.mem_cons_of_mem _ hy)
  by_cases hc:x=n∨snB l.seen x.natAbs=true∨v=0
  ·rw [if_pos hc]
   obtain ⟨l',e1,e2,e3,e4,e5⟩:=lcl_ok h hb hV hat (c:=r) hl hrl hrf
   refine ⟨l',e1,e2,fun y hy hyn=>?_,e4,e5⟩
   rcases List.mem_cons.1 hy with e | hy
   ·subst e
    rcases hc with hc | hc | hc
    ·exact absurd hc hyn
    ·obtain ⟨i,_,hi⟩:=hf y List.mem_cons_self hyn
     exact ⟨i,hi,.inr (e4 _ hc)⟩
    ·obtain ⟨i,_,hi⟩:=hf y List.mem_cons_self hyn
     obtain ⟨L,h1,_,_,h4,_⟩:=h.le.cur hb hi
     rw [Int.natAbs_neg,hv] at h1
     injection h1 with h1
     exact ⟨i,hi,.inl (h4.1 (by omega))⟩
   ·exact e3 y hy hyn
  ·rw [if_neg hc]
   have hxn:x≠n:=fun e=>hc (.inl e)
   have hns:snB l.seen x.natAbs=false:=by
    cases e:snB l.seen x.natAbs with
    | false=>rfl
    | true=>exact absurd (.inr (.inl e)) hc
   have hv0:v≠0:=fun e=>hc (.inr (.inr e))
   obtain ⟨i,hia,hi⟩:=hf x List.mem_cons_self hxn
   obtain ⟨L,h1,h2,h3,h4,_⟩:=h.le.cur hb hi
   rw [Int.natAbs_neg,hv] at h1
   injection h1 with h1
   subst h1
   have hL0:¬ L0 s0.lm i:=fun e=>hv0 (by have:=h4.2 e; omega)
   obtain ⟨s',es,hbs⟩:=hl.bs.bump (v:=x.natAbs) (by omega) hx.2
   rw [es]
   dsimp only
   obtain ⟨r0,ho,hnd,hr1,hr2⟩:=hl.out
   have hrlen:r0.length≤V:=by
    have hsub:r0.map (fun z => -z) ⊆ s0.tr:=fun z hz=>by
     obtain ⟨y,hy,e⟩:=List.mem_map.1 hz
     obtain ⟨i,h1,_⟩:=hr1 y hy
     rw [← e]; exact List.mem_of_getElem? h1
    have hnd2:(r0.map (fun z => -z)).Nodup:=by
     rw [List.nodup_iff_pairwise_ne,List.pairwise_map]
     rw [List.nodup_iff_pairwise_ne] at hnd
     exact hnd.imp fun hne e=>hne (by omega)
    have:=hnd2.length_le_of_subset hsub
    rw [List.length_map] at this
    have:=h.room.1
    omega
   have hop:l.op≤V:=by rw [hl.op]; exact Nat.le_trans (cnt_le _) (Nat.le_trans hat h.room.1)
   rw [if_pos ⟨by omega,by rw [ho,List.length_cons]; omega⟩,hl.bs.lv.2.2.1]
   have hsee:∀ u,snB (l.seen.set x.natAbs true) u=if u=x.natAbs then true else snB l.seen u:=fun u=>snB_set hxs
   have hmono:∀ u,snB l.seen u=true→snB (l.seen.set x.natAbs true) u=true:=fun u hu=>by rw [hsee]; split; rfl; exact hu
   have hsv:∀ v,snB (l.seen.set x.natAbs true) v=true→∃ i u,s0.tr[i]? = some u∧u.natAbs=v∧¬ L0 s0.lm i:=fun v hv=>by
    rw [hsee] at hv
    by_cases e:v=x.natAbs
    ·subst e; exact ⟨i,-x,hi,Int.natAbs_neg x,hL0⟩
    ·rw [if_neg e] at hv; exact hl.sv v hv
   have hdiff:∀ j,j<at_→j≠i→(s0.tr.getD j 0).natAbs≠x.natAbs:=fun j hj hji e=>by
    obtain ⟨u,hu⟩:=at_lt (l:=s0.tr) (i:=j) (by omega)
    rw [getD_at hu] at e
    exact hji (idx_one h hu hi (by rw [Int.natAbs_neg]; exact e))
   have hback:∀ j u,s0.tr[j]? = some u→(snB (l.seen.set x.natAbs true) u.natAbs=true∨j<at_)→snB l.seen u.natAbs=true∨j<at_:=fun j u hj hu=>by
    rcases hu with hu | hu
    ·rw [hsee] at hu
     by_cases e:u.natAbs=x.natAbs
     ·have:=idx_one h hj hi (by rw [Int.natAbs_neg]; exact e)
      exact .inr (by omega)
     ·rw [if_neg e] at hu; exact .inl hu
    ·exact .inr hu
   by_cases hcur:(L:Int)=(s0.lm.length:Int)
   ·rw [if_pos hcur]
    have hbi:b≤i:=h3.1 (by omega)
    obtain ⟨l',e1,e2,e3,e4,e5⟩:=lcl_ok h hb hV hat (c:=r) (l:={ s:=s',seen:=l.seen.set x.natAbs true,op:=l.op+1,out:=l.out })
     {bs:=hbs
      sl:=by show (l.seen.set _ _).length=_; rw [List.length_set]; exact hl.sl
      sv:=hsv
      op:=by
       show l.op+1=_
       rw [cnt_one hxs hns hia hbi (by rw [getD_at hi,Int.natAbs_neg]) hdiff,hl.op]
      out:=⟨r0,ho,hnd,fun y hy=>by obtain ⟨j,h1,h2,h3,h4⟩:=hr1 y hy; exact ⟨j,h1,h2,h3,hmono _ h4⟩,fun j u hj hjb hu=>by
       rw [hsee] at hu
       by_cases e:u.natAbs=x.natAbs
       ·have:=idx_one h hj hi (by rw [Int.natAbs_neg]; exact e); omega
       ·rw [if_neg e] at hu; exact hr2 j u hj hjb hu⟩ } hrl hrf
    refine ⟨l',e1,e2,fun y hy hyn=>?_,fun u hu=>e4 u (hmono u hu),fun j u hj hu=>hback j u hj (e5 j u hj hu)⟩
    rcases List.mem_cons.1 hy with e | hy
    ·subst e; exact ⟨i,hi,.inr (e4 _ (by rw [hsee,if_pos rfl]))⟩
    ·exact e3 y hy hyn
   ·rw [if_neg hcur]
    have hbi:i<b:=by
     by_cases c:b≤i
     ·exact absurd (by have:=h3.2 c; omega) hcur
     ·omega
    have hxr:x ∉ r0:=fun hm=>by
     obtain ⟨_,_,_,_,h4⟩:=hr1 x hm
     rw [hns] at h4; exact absurd h4 (by decide)
    obtain ⟨l',e1,e2,e3,e4,e5⟩:=lcl_ok h hb hV hat (c:=r) (l:={ s:=s',seen:=l.seen.set x.natAbs true,op:=l.op,out:=l.out++[x] })
     {bs:=hbs
      sl:=by show (l.seen.set _ _).length=_; rw [List.length_set]; exact hl.sl
      sv:=hsv
      op:=by
       show l.op=_
       rw [cnt_other hxs (fun j hj hbj=>hdiff j hj (by omega)),hl.op]
      out:=⟨r0++[x],by show l.out++[x]=_; rw [ho]; rfl,by
       rw [List.nodup_append]
       refine ⟨hnd,by simp,fun y hy z hz e=>?_⟩
       rw [List.mem_singleton.1 hz] at e
       exact hxr (e▸hy),fun y hy=>by
       rcases List.mem_append.1 hy with hy | hy
       ·obtain ⟨j,h1,h2,h3,h4⟩:=hr1 y hy; exact ⟨j,h1,h2,h3,hmono _ h4⟩
       ·rw [List.mem_singleton.1 hy]; exact ⟨i,hi,hbi,hL0,by rw [hsee,if_pos rfl]⟩,fun j u hj hjb hu=>by
       rw [hsee] at hu
       by_cases e:u.natAbs=x.natAbs
       ·have:=idx_one h hj hi (by rw [Int.natAbs_neg]; exact e)
        subst this
        rw [hi] at hj
        injection hj with hj
        subst hj
        rw [Int.neg_neg]
        exact List.mem_append_right _ (List.mem_singleton.2 rfl)
       ·rw [if_neg e] at hu; exact List.mem_append_left _ (hr2 j u hj hjb hu)⟩ } hrl hrf
    refine ⟨l',e1,e2,fun y hy hyn=>?_,fun u hu=>e4 u (hmono u hu),fun j u hj hu=>hback j u hj (e5 j u hj hu)⟩
    rcases List.mem_cons.1 hy with e | hy
    ·subst e; exact ⟨i,hi,.inr (e4 _ (by rw [hsee,if_pos rfl]))⟩
    ·exact e3 y hy hyn
theorem lseek_ok (h:Inv V G s0) {seen:List Bool} (hs:seen.length=V+1):∀ {a:Nat},a<s0.tr.length→(∃ i,i≤a∧snB seen (s0.tr.getD i 0).natAbs=true) →
  ∃ q,lseek s0.tr seen a=some q∧q≤a∧snB seen (s0.tr.getD q 0).natAbs=true∧∀ i,q<i→i≤a→snB seen (s0.tr.getD i 0).natAbs=false:=by
 have look:∀ {a:Nat} (ha:a<s0.tr.length),∃ t,s0.tr[a]? = some t∧seen[t.natAbs]? = some (snB seen (s0.tr.getD a 0).natAbs):=fun {a} ha=>by
  obtain ⟨t,ht⟩:=at_lt ha
  have hl:=(h.tv.trv t (List.mem_of_getElem? ht)).1.2
  exact ⟨t,ht,by rw [getD_at ht]; exact at_snB (by omega)⟩
 intro a
 induction a with
 | zero=>
  intro ha hex
  obtain ⟨i,hi,he⟩:=hex
  obtain rfl:i=0:=by omega
  obtain ⟨t,ht,e⟩:=look ha
  unfold lseek
  rw [ht]
  dsimp only
  rw [e,he]
  exact ⟨0,rfl,Nat.le_refl _,he,fun i h1 h2=>by omega⟩
 | succ a ih=>
  intro ha hex
  obtain ⟨t,ht,e⟩:=look ha
  unfold lseek
  rw [ht]
  dsimp only
  rw [e]
  cases hc:snB seen (s0.tr.getD (a+1) 0).natAbs with
  | true=>exact ⟨a+1,rfl,Nat.le_refl _,hc,fun i h1 h2=>by omega⟩
  | false=>
   obtain ⟨i,hi,he⟩:=hex
   obtain ⟨q,e1,e2,e3,e4⟩:=ih (by omega) ⟨i,by
    by_cases c:i=a+1
    ·subst c; rw [hc] at he; exact absurd he (by decide)
    ·omega,he⟩
   refine ⟨q,e1,by omega,e3,fun i h1 h2=>?_⟩
   by_cases c:i=a+1
   ·subst c; exact hc
   ·exact e4 i h1 (by omega)
def Dn (s0:SS) (l:LS) (i:Nat) (u:Int):Prop:=∃ (k:Nat) (c:List Int),s0.xs[k]? = some c∧u∈c∧∀ y∈c,y≠u→∃ j,j<i∧s0.tr[j]? = some (-y)∧(L0 s0.lm j∨snB l.seen y.natAbs=true)
structure LE (V:Nat) (s0:SS) (b:Nat) (c0:List Int) (t:Int) (l:LS):Prop where
 bs:Bs V s0 l.s
 sv:∀ v,snB l.seen v=true→∃ i u,s0.tr[i]? = some u∧u.natAbs=v∧¬ L0 s0.lm i
 out:∃ r,l.out=0::r∧r.Nodup∧(∀ x∈r,∃ i,s0.tr[i]? = some (-x)∧i<b∧¬ L0 s0.lm i∧snB l.seen x.natAbs=true)∧∀ i u,s0.tr[i]? = some u→i<b→snB l.seen u.natAbs=true → -u∈r
 uip:∃ a,s0.tr[a]? = some t∧b≤a∧(∀ i u,s0.tr[i]? = some u→b≤i→i<a→snB l.seen u.natAbs=false)∧∀ i u,s0.tr[i]? = some u→a<i→snB l.seen u.natAbs=true→Dn s0 l i u
 cf:∀ y∈c0,Okk s0 l y
theorem Dn.mono {l l':LS} {i:Nat} {u:Int} (h:Dn s0 l i u) (hs:∀ v,snB l.seen v=true→snB l'.seen v=true):Dn s0 l' i u:=by
 obtain ⟨k,c,h1,h2,h3⟩:=h
 refine ⟨k,c,h1,h2,fun y hy hyu=>?_⟩
 obtain ⟨j,g1,g2,g3⟩:=h3 y hy hyu
 exact ⟨j,g1,g2,g3.imp id (hs _)⟩
theorem Okk.mono {l l':LS} {y:Int} (h:Okk s0 l y) (hs:∀ v,snB l.seen v=true→snB l'.seen v=true):Okk s0 l' y:=by
 obtain ⟨j,g2,g3⟩:=h
 exact ⟨j,g2,g3.imp id (hs _)⟩
theorem cfl_cur (h:Inv V G s0) (hb:LastB s0.lm b) {k:Nat} {c:List Int} (hk:s0.xs[k]? = some c) (hc:∀ y∈c,-y∈s0.tr):∃ y i,y∈c∧s0.tr[i]? = some (-y)∧b≤i:=by
 obtain ⟨h2,hnd,hl⟩:=h.cl.ok k c hk
 match c,h2,hnd,hl,hk,hc with
 | x::y::t,_,hnd,hl,hk,hc=>
  have hw:=(h.bnd b hb.mem).2 k x y t hk
  obtain ⟨i,hi,e⟩:=List.getElem_of_mem (hc x (by simp))
  have hi2:s0.tr[i]? = some (-x):=by rw [List.getElem?_eq_getElem hi,e]
  by_cases c1:b≤i
  ·exact ⟨x,i,by simp,hi2,c1⟩
  ·exfalso
   have h3:=hw.1 (List.mem_of_getElem? (take_of (by omega) hi2))
   exact h.tv.not_both (hl y (by simp)).1 (List.mem_of_mem_take h3) (hc y (by simp))
theorem lrnL_ok (h:Inv V G s0) (hb:LastB s0.lm b) (hV:V≤400000) {k0:Nat} {c0:List Int} (hk0:s0.xs[k0]? = some c0) (hc0:∀ y∈c0,-y∈s0.tr):∀ {f at_ kn:Nat} {n:Int} {l:LS} {c:List Int},at_<f→at_≤s0.tr.length→LI V s0 b at_ l→s0.xs[kn]? = some c →
  (∀ y∈c,y≠n→∃ i,FalseBy s0.tr at_ y i)→(∀ i u,s0.tr[i]? = some u→at_≤i→snB l.seen u.natAbs=true→(u=n∧n∈c)∨Dn s0 l i u) →
  ((kn=k0∧n=0)∨0<l.op∧∀ y∈c0,Okk s0 l y)→∃ t l',lrnL V f (kn:Int) n at_ l=some (t,l')∧LE V s0 b c0 t l'
 | 0,_,_,_,_,_,hf,_,_,_,_,_,_=>absurd hf (Nat.not_lt_zero _)
 | f+1,at_,kn,n,l,c,hf,hat,hl,hk,hcf,hdn,hcase=>by
  have hok:=h.cl.ok kn c hk
  unfold lrnL
  rw [if_neg (by omega),show ((kn:Nat):Int).toNat=kn from rfl,hl.bs.lv.2.2.2.1,hk]
  dsimp only
  obtain ⟨l1,e1,hl1,hok1,hmono,hback⟩:=lcl_ok h hb hV hat (n:=n) hl (fun y hy=>(hok.2.2 y hy).1) hcf
  rw [e1]
  dsimp only
  have hcfl:∀ y∈c0,Okk s0 l1 y:=by
   rcases hcase with ⟨e,e2⟩ | ⟨_,e⟩
   ·subst e
    rw [hk] at hk0
    injection hk0 with hk0
    subst hk0
    exact fun y hy=>hok1 y hy (by have:=(hok.2.2 y hy).1.1; omega)
   ·exact fun y hy=>(e y hy).mono hmono
  have hop:0<l1.op:=by
   rcases hcase with ⟨e,e2⟩ | ⟨e,_⟩
   ·subst e
    rw [hk] at hk0
    injection hk0 with hk0
    subst hk0
    obtain ⟨y,i,hy,hi,hbi⟩:=cfl_cur h hb hk hc0
    have hy0:=(hok.2.2 y hy).1.1
    obtain ⟨j,hj1,hj2⟩:=hcf y hy (by omega)
    have hij:=idx_one h hj2 hi rfl
    subst hij
    obtain ⟨j2,hj3,hj4⟩:=hok1 y hy (by omega)
    have:=idx_one h hj3 hi rfl
    subst this
    have hs:snB l1.seen y.natAbs=true:=by
     rcases hj4 with e | e
     ·have:=e b hb.mem; omega
     ·exact e
    rw [hl1.op]
    exact pos_cnt hj1 hbi (by rw [getD_at hi,Int.natAbs_neg]; exact hs)
   ·rw [hl.op] at e
    obtain ⟨i,h1,h2,h3⟩:=cnt_pos e
    rw [hl1.op]
    exact pos_cnt h1 h2 (hmono _ h3)
  have hdn1:∀ i u,s0.tr[i]? = some u→at_≤i→snB l1.seen u.natAbs=true→Dn s0 l1 i u:=fun i u hi hia hs=>by
   by_cases hs0:snB l.seen u.natAbs=true
   ·rcases hdn i u hi hia hs0 with ⟨e1,e2⟩ | e
    ·subst e1
     refine ⟨kn,c,hk,e2,fun y hy hyu=>?_⟩
     obtain ⟨j,g1,g2⟩:=hcf y hy hyu
     obtain ⟨j2,g3,g4⟩:=hok1 y hy hyu
     have:=idx_one h g2 g3 rfl
     subst this
     exact ⟨j,by omega,g2,g4⟩
    ·exact e.mono hmono
   ·
    rcases hback i u hi hs with e | e
    ·exact absurd e hs0
    ·omega
  match at_,hl1,hdn1,hat,hf with
  | 0,hl1,_,_,_=>rw [hl1.op] at hop; exact absurd hop (Nat.lt_irrefl _)
  | at1+1,hl1,hdn1,hat,hf=>
   dsimp only
   rw [hl1.bs.lv.2.1]
   have hopc:=hl1.op
   rw [hopc] at hop
   obtain ⟨i0,i1,i2,i3⟩:=cnt_pos hop
   obtain ⟨q,eq,q1,q2,q3⟩:=lseek_ok h hl1.sl (a:=at1) (by omega) ⟨i0,by omega,i3⟩
   rw [eq]
   dsimp only
   have hbq:b≤q:=by
    by_cases c:i0≤q
    ·omega
    ·have:=q3 i0 (by omega) (by omega); rw [i3] at this; exact absurd this (by decide)
   obtain ⟨t,ht⟩:=at_lt (l:=s0.tr) (i:=q) (by omega)
   rw [ht]
   dsimp only
   rw [hl1.bs.lv.2.2.2.2.1]
   obtain ⟨r,hr,hr2⟩:=h.rs.rea q t ht
   rw [hr]
   dsimp only
   have hcq:cnt s0.tr b l1.seen (at1+1)=cnt s0.tr b l1.seen q+1:=by
    rw [cnt_gap (c:=q+1) (a:=at1+1) (by omega) fun i h1 h2=>q3 i (by omega) (by omega)]
    show cnt s0.tr b l1.seen q+_=_
    rw [if_pos ⟨hbq,q2⟩]
   rw [hcq] at hopc
   have hseq:snB l1.seen t.natAbs=true:=by rw [getD_at ht] at q2; exact q2
   have hab:∀ i u,s0.tr[i]? = some u→q<i→snB l1.seen u.natAbs=true→Dn s0 l1 i u:=fun i u hi hqi hs=>by
    by_cases c:at1+1≤i
    ·exact hdn1 i u hi c hs
    ·have:=q3 i hqi (by omega)
     rw [getD_at hi,hs] at this
     exact absurd this (by decide)
   cases hcz:cnt s0.tr b l1.seen q with
   | zero=>
    rw [hopc,hcz]
    refine ⟨_,_,rfl,?_⟩
    exact {
     bs:=hl1.bs
     sv:=hl1.sv
     out:=hl1.out
     uip:=⟨q,ht,hbq,fun i u hi hbi hiq=>by
      cases hs:snB l1.seen u.natAbs with
      | false=>rfl
      | true=>
       have:=pos_cnt (tr:=s0.tr) (seen:=l1.seen) hiq hbi (by rw [getD_at hi]; exact hs)
       omega,hab⟩
     cf:=hcfl }
   | succ o=>
    rw [hopc,hcz]
    dsimp only
    rcases hr2 with ⟨e1,e2⟩ | ⟨k',c',e1,e2,e3,e4⟩
    ·exfalso
     rcases e2 with e2 | ⟨e2,_⟩
     ·have:=hb.max h.le e2
      obtain rfl:q=b:=by omega
      rw [cnt_low (Nat.le_refl _)] at hcz
      exact absurd hcz (by omega)
     ·have:=e2 b hb.mem; omega
    ·subst e1
     exact lrnL_ok h hb hV hk0 hc0 (f:=f) (at_:=q) (kn:=k') (n:=t) (c:=c') (by omega) (by omega)
      {bs:=hl1.bs,sl:=hl1.sl,sv:=hl1.sv,op:=hcz.symm,out:=hl1.out } e2
      (fun y hy hyt=>by
       have h5:=e4 y hy hyt
       obtain ⟨i,hi,e⟩:=List.getElem_of_mem h5
       have h6:=take_at (List.getElem?_eq_getElem hi)
       rw [e] at h6
       exact ⟨i,h6.1,h6.2⟩)
      (fun i u hi hqi hs=>by
       by_cases c:i=q
       ·subst c
        rw [ht] at hi
        injection hi with hi
        exact .inl ⟨hi.symm,e3⟩
       ·exact .inr (hab i u hi (by omega) hs))
      (.inr ⟨Nat.succ_pos _,hcfl⟩)
theorem swap_perm_int {l:List Int} {i j:Nat} {v u:Int} (hi:l[i]? = some v) (hj:l[j]? = some u):((l.set i u).set j v).Perm l:=by
 obtain ⟨l1,e1⟩:=List.getElem?_eq_some_iff.1 hi
 obtain ⟨l2,e2⟩:=List.getElem?_eq_some_iff.1 hj
 subst e1; subst e2
 exact List.set_set_perm l1 l2
structure Sw (lvs:List Int) (out0 out:List Int) (back:Int) (i:Nat):Prop where
 perm:out.Perm out0
 hd:out[0]? = out0[0]?
 lv:∀ (j:Nat) x,1≤j→out[j]? = some x→∃ L:Int,lvs[x.natAbs]? = some L∧0<L∧(j<i→L≤back)
 bk:(i=1∧back=0)∨1<i∧∃ x,out[1]? = some x∧lvs[x.natAbs]? = some back∧0<back
theorem lswap_ok {lvs out0:List Int}:∀ {f i:Nat} {out:List Int} {back:Int},out.length<f+i→1≤i→i≤out.length→Sw lvs out0 out back i→∃ out' back',lswap lvs f i out back=some (out',back')∧Sw lvs out0 out' back' out'.length
 | 0,i,out,back,hf,_,hi,_=>absurd hf (by omega)
 | f+1,i,out,back,hf,h1,hi,h=>by
  unfold lswap
  by_cases hc:i<out.length
  ·rw [if_pos hc]
   obtain ⟨x,hx⟩:=at_lt hc
   obtain ⟨y,hy⟩:=at_lt (l:=out) (i:=1) (by omega)
   rw [hx,hy]
   dsimp only
   obtain ⟨L,hL,hL0,_⟩:=h.lv i x h1 hx
   rw [hL]
   dsimp only
   by_cases hb:back<L
   ·rw [if_pos hb]
    have hsw:∀ j,((out.set 1 x).set i y)[j]? = if j=i then some y else if j=1 then some x else out[j]? := fun j=>by
     rw [at_set (by rw [List.length_set]; exact hc),at_set (by omega)]
    have hp:=swap_perm_int hy hx
    refine lswap_ok (f:=f) (i:=i+1) (by rw [List.length_set,List.length_set]; omega) (by omega) (by rw [List.length_set,List.length_set]; omega) ?_
    exact {
     perm:=hp.trans h.perm
     hd:=by rw [hsw,if_neg (by omega),if_neg (by omega)]; exact h.hd
     lv:=fun j z hj hz=>by
      rw [hsw] at hz
      by_cases c1:j=i
      ·rw [if_pos c1] at hz
       injection hz with hz
       subst hz; subst c1
       obtain ⟨M,m1,m2,m3⟩:=h.lv 1 y (Nat.le_refl _) hy
       refine ⟨M,m1,m2,fun _=>?_⟩
       by_cases c2:j=1
       ·subst c2
        rw [hx] at hy; injection hy with hy; subst hy
        rw [hL] at m1; injection m1 with m1; omega
       ·have:=m3 (by omega); omega
      ·rw [if_neg c1] at hz
       by_cases c2:j=1
       ·rw [if_pos c2] at hz
        injection hz with hz
        subst hz
        exact ⟨L,hL,hL0,fun _=>Int.le_refl _⟩
       ·rw [if_neg c2] at hz
        obtain ⟨M,m1,m2,m3⟩:=h.lv j z hj hz
        exact ⟨M,m1,m2,fun hji=>by have:=m3 (by omega); omega⟩
     bk:=.inr ⟨by omega,x,by
      rw [hsw]
      by_cases c1:1=i
      ·rw [if_pos c1]; rw [← c1] at hx; rw [hx] at hy; exact hy.symm
      ·rw [if_neg c1,if_pos rfl],hL,hL0⟩ }
   ·rw [if_neg hb]
    refine lswap_ok (f:=f) (i:=i+1) (by omega) (by omega) (by omega) ?_
    exact {
     perm:=h.perm
     hd:=h.hd
     lv:=fun j z hj hz=>by
      obtain ⟨M,m1,m2,m3⟩:=h.lv j z hj hz
      refine ⟨M,m1,m2,fun hji=>?_⟩
      by_cases c1:j=i
      ·subst c1
       rw [hx] at hz; injection hz with hz; subst hz
       rw [hL] at m1; injection m1 with m1; omega
      ·exact m3 (by omega)
     bk:=by
      rcases h.bk with ⟨e1,e2⟩ | ⟨e1,e2⟩
      ·exfalso; omega
      ·exact .inr ⟨by omega,e2⟩ }
  ·rw [if_neg hc]
   obtain rfl:i=out.length:=by omega
   exact ⟨_,_,rfl,h⟩
theorem imp_l0 (h:Inv V G s0) {c:List Int}:∀ {m i:Nat} {u:Int},i<m→s0.tr[i]? = some u→L0 s0.lm i→Imp G c u
 | 0,_,_,hm,_,_=>absurd hm (Nat.not_lt_zero _)
 | m+1,i,u,hm,hi,h0=>by
  obtain ⟨r,hr,hr2⟩:=h.rs.rea i u hi
  rcases hr2 with ⟨_,e2 | ⟨_,d,e3,e4⟩⟩ | ⟨k,x,_,e2,e3,e4⟩
  ·exact absurd (h0 i e2) (Nat.lt_irrefl _)
  ·exact imp_unit e3 fun z hz hzu=>absurd ((e4 z).1 hz) hzu
  ·obtain ⟨d,hd,hs⟩:=h.cl.src k x e2
   refine imp_unit hd fun z hz hzu=>?_
   have hzx:=(hs z).2 hz
   refine ⟨((h.cl.ok k x e2).2.2 z hzx).1.1,?_⟩
   obtain ⟨j,hj,e⟩:=List.getElem_of_mem (e4 z hzx hzu)
   have h6:=take_at (List.getElem?_eq_getElem hj)
   rw [e] at h6
   exact imp_l0 h (m:=m) (by omega) h6.2 fun a ha=>by have:=h0 a ha; omega
structure Lrn (V:Nat) (G:List (List Int)) (s0 s:SS) (c:List Int) (back:Int):Prop where
 bs:Bs V s0 s
 lit:∀ y∈c,Lit V y
 nd:c.Nodup
 fls:∀ y∈c,-y∈s0.tr
 ref:Ref G c
 new:s0.dead=false→∀ d∈G,¬ SameC d c
 bk:∃ (l m:Nat),back=(l:Int)∧s0.lm[l]? = some m∧∃ a r,c=a::r ∧ -a ∉ s0.tr.take m∧(∀ x∈r,-x∈s0.tr.take m)∧(r=[]→l=0)∧∀ x r',r=x::r'→∀ (j m':Nat),j<l→s0.lm[j]? = some m' → -x ∉ s0.tr.take m'
theorem LE.told (h:Inv V G s0) (hb:LastB s0.lm b) {c0:List Int} {t:Int} {l:LS} (he:LE V s0 b c0 t l) {c:List Int} (hc:∀ y,y∈c↔y = -t∨∃ r,l.out=0::r∧y∈r) :
  ∀ {m i:Nat} {u:Int},i<m→s0.tr[i]? = some u→(L0 s0.lm i∨snB l.seen u.natAbs=true)→Imp G c u
 | 0,_,_,hm,_,_=>absurd hm (Nat.not_lt_zero _)
 | m+1,i,u,hm,hi,hs=>by
  have hu0:=(h.tv.trv u (List.mem_of_getElem? hi)).1.1
  rcases hs with hs | hs
  ·exact imp_l0 h (Nat.lt_succ_self i) hi hs
  ·obtain ⟨a,ha,hba,hlow,habv⟩:=he.uip
   obtain ⟨r,ho,hnd,hr1,hr2⟩:=he.out
   by_cases c1:i<b
   ·have h1:=hr2 i u hi c1 hs
    have:=imp_self (L:=G) ((hc (-u)).2 (.inr ⟨r,ho,h1⟩)) (by omega)
    rwa [Int.neg_neg] at this
   ·by_cases c2:i<a
    ·have:=hlow i u hi (by omega) c2
     rw [hs] at this; exact absurd this (by decide)
    ·by_cases c3:i=a
     ·subst c3
      rw [ha] at hi; injection hi with hi; subst hi
      have:=imp_self (L:=G) ((hc (-t)).2 (.inl rfl)) (by omega)
      rwa [Int.neg_neg] at this
     ·obtain ⟨k,x,e1,e2,e3⟩:=habv i u hi (by omega) hs
      obtain ⟨d,hd,hs2⟩:=h.cl.src k x e1
      refine imp_unit hd fun z hz hzu=>?_
      have hzx:=(hs2 z).2 hz
      refine ⟨((h.cl.ok k x e1).2.2 z hzx).1.1,?_⟩
      obtain ⟨j,j1,j2,j3⟩:=e3 z hzx hzu
      exact LE.told h hb he hc (m:=m) (by omega) j2 (by rw [Int.natAbs_neg]; exact j3)
theorem learnM_ok (h:Inv V G s0) (hlm:s0.lm≠[]) (hV:V≤400000) {k0:Nat} {c0:List Int} (hk0:s0.xs[k0]? = some c0) (hc0:∀ y∈c0,-y∈s0.tr) :
  ∃ c back s,learnM V s0 k0=some (c,back,s)∧Lrn V G s0 s c back:=by
 obtain ⟨b,hbm⟩:=at_lt (l:=s0.lm) (i:=s0.lm.length-1) (by have:=List.length_pos_iff.2 hlm; omega)
 have hb:LastB s0.lm b:=⟨hlm,hbm⟩
 have hrep:∀ v,snB (List.replicate (V+1) false) v=false:=fun v=>by
  unfold snB
  rw [List.getD_eq_getElem?_getD,List.getElem?_replicate]
  split <;> rfl
 have hno:∀ a,cnt s0.tr b (List.replicate (V+1) false) a=0:=fun a=>by
  cases e:cnt s0.tr b (List.replicate (V+1) false) a with
  | zero=>rfl
  | succ n=>
   obtain ⟨i,_,_,h3⟩:=cnt_pos (tr:=s0.tr) (b:=b) (seen:=List.replicate (V+1) false) (a:=a) (by omega)
   rw [hrep] at h3; exact absurd h3 (by decide)
 have hL:LI V s0 b s0.tr.length { s:=s0,seen:=List.replicate (V+1) false,op:=0,out:=[0] }:={
  bs:=⟨s0.sc,s0.gr,s0.hp,s0.pl,rfl,h.hp,List.Perm.refl _,h.sc⟩
  sl:=by simp
  sv:=fun v hv=>by rw [hrep] at hv; exact absurd hv (by decide)
  op:=(hno _).symm
  out:=⟨[],rfl,List.nodup_nil,fun _ hx=>(by cases hx),fun i u _ _ hs=>by rw [hrep] at hs; exact absurd hs (by decide)⟩ }
 obtain ⟨t,l,e1,he⟩:=lrnL_ok h hb hV hk0 hc0 (f:=s0.tr.length+1) (at_:=s0.tr.length) (kn:=k0) (n:=0) (Nat.lt_succ_self _) (Nat.le_refl _) hL hk0
  (fun y hy _=>by
   obtain ⟨i,hi,e⟩:=List.getElem_of_mem (hc0 y hy)
   exact ⟨i,hi,by rw [List.getElem?_eq_getElem hi,e]⟩)
  (fun i u hi hia _=>absurd (lt_of_at hi) (by omega)) (.inl ⟨rfl,rfl⟩)
 unfold learnM
 rw [e1]
 dsimp only
 obtain ⟨a,ha,hba,hlow,habv⟩:=he.uip
 obtain ⟨r,ho,hnd,hr1,hr2⟩:=he.out
 rw [ho,he.bs.lv.1]
 have ht:=(h.tv.trv t (List.mem_of_getElem? ha)).1
 have hset:(0::r:List Int).set 0 (-t) = -t::r:=rfl
 rw [hset,show (0::r:List Int).length=(-t::r).length from rfl]
 obtain ⟨c,back,e2,hsw⟩:=lswap_ok (lvs:=s0.lv) (out0 := -t::r) (f:=(-t::r).length+1) (i:=1) (out := -t::r) (back:=0) (by omega) (Nat.le_refl _) (by simp) {
  perm:=List.Perm.refl _
  hd:=rfl
  lv:=fun j x hj hx=>by
   obtain ⟨j0,rfl⟩:∃ j0,j=j0+1:=⟨j-1,by omega⟩
   rw [List.getElem?_cons_succ] at hx
   obtain ⟨i,h1,h2,h3,_⟩:=hr1 x (List.mem_of_getElem? hx)
   obtain ⟨L,g1,g2,g3,g4,_⟩:=h.le.cur hb h1
   rw [Int.natAbs_neg] at g1
   refine ⟨(L:Int),g1,?_,fun _=>by omega⟩
   have:L≠0:=fun e=>h3 (g4.1 e)
   omega
  bk:=.inl ⟨rfl,rfl⟩ }
 rw [e2]
 refine ⟨c,back,l.s,rfl,?_⟩
 have hmem:∀ y,y∈c↔y = -t∨y∈r:=fun y=>by rw [hsw.perm.mem_iff,List.mem_cons]
 have hfls:∀ y∈c,-y∈s0.tr:=fun y hy=>by
  rcases (hmem y).1 hy with e | e
  ·subst e; rw [Int.neg_neg]; exact List.mem_of_getElem? ha
  ·obtain ⟨i,h1,_⟩:=hr1 y e
   exact List.mem_of_getElem? h1
 have hlit:∀ y∈c,Lit V y:=fun y hy=>by
  have:=(h.tv.trv _ (hfls y hy)).1.neg
  rwa [Int.neg_neg] at this
 have htr : -t ∉ r:=fun hm=>by
  obtain ⟨i,h1,h2,_⟩:=hr1 _ hm
  rw [Int.neg_neg] at h1
  have:=idx_one h h1 ha rfl
  omega
 have hcnd:c.Nodup:=hsw.perm.nodup_iff.2 (List.nodup_cons.2 ⟨htr,hnd⟩)
 obtain ⟨a0,r',hcr⟩:∃ a0 r',c=a0::r':=by
  cases c with
  | nil=>have:=hsw.hd; simp at this
  | cons x y=>exact ⟨x,y,rfl⟩
 have ha0:a0 = -t:=by have:=hsw.hd; rw [hcr] at this; simpa using this
 have hr':∀ y∈r',y∈r:=fun y hy=>by
  rcases (hmem y).1 (by rw [hcr]; exact List.mem_cons_of_mem _ hy) with e | e
  ·exfalso
   rw [hcr,ha0,List.nodup_cons] at hcnd
   subst e
   exact hcnd.1 hy
  ·exact e
 have hrr:∀ y∈r,y∈r':=fun y hy=>by
  have:=(hmem y).2 (.inr hy)
  rw [hcr] at this
  rcases List.mem_cons.1 this with e | e
  ·subst e; rw [ha0] at hy; exact absurd hy htr
  ·exact e
 have hlvl:∀ x∈r',∃ (i L:Nat),s0.tr[i]? = some (-x)∧i<b∧s0.lv[x.natAbs]? = some (L:Int)∧L≠0∧L<s0.lm.length∧(L:Int)≤back∧∀ (j m:Nat),s0.lm[j]? = some m→(m≤i↔j<L):=fun x hx=>by
  obtain ⟨i,h1,h2,h3,_⟩:=hr1 x (hr' x hx)
  obtain ⟨L,g1,g2,g3,g4,g5⟩:=h.le.cur hb h1
  rw [Int.natAbs_neg] at g1
  obtain ⟨j,hj,e⟩:=List.getElem_of_mem hx
  obtain ⟨M,m1,m2,m3⟩:=hsw.lv (j+1) x (by omega) (by rw [hcr,List.getElem?_cons_succ,List.getElem?_eq_getElem hj,e])
  rw [g1] at m1
  injection m1 with m1
  have m4:=m3 (by rw [hcr,List.length_cons]; omega)
  refine ⟨i,L,h1,h2,g1,by omega,?_,by omega,g5⟩
  by_cases c1:L=s0.lm.length
  ·have:=g3.1 c1; omega
  ·omega
 have hback:∃ l:Nat,back=(l:Int)∧l<s0.lm.length∧(r'=[]→l=0)∧∀ x r'',r'=x::r''→∃ i,s0.tr[i]? = some (-x)∧∀ (j m':Nat),j<l→s0.lm[j]? = some m'→m'≤i:=by
  rcases hsw.bk with ⟨e3,e4⟩ | ⟨e3,x,e4,e5,e6⟩
  ·have hn:r'=[]:=by
    rw [hcr,List.length_cons] at e3
    exact List.length_eq_zero_iff.1 (by omega)
   exact ⟨0,by omega,List.length_pos_iff.2 hlm,fun _=>rfl,fun x r'' e=>(by rw [hn] at e; cases e)⟩
  ·rw [hcr,List.getElem?_cons_succ] at e4
   have hxr:x∈r':=List.mem_of_getElem? e4
   obtain ⟨i,L,g1,g2,g3,g4,g5,g6,g7⟩:=hlvl x hxr
   rw [g3] at e5
   injection e5 with e5
   refine ⟨L,e5.symm,g5,fun e=>(by rw [e] at hxr; cases hxr),fun z r'' e=>?_⟩
   rw [e] at e4
   injection e4 with e4
   subst e4
   exact ⟨i,g1,fun j m' hj hm'=>(g7 j m' hm').2 hj⟩
 obtain ⟨lv0,hl1,hl2,hl3,hl4⟩:=hback
 obtain ⟨m,hm⟩:=at_lt hl2
 have hmb:m≤b:=hb.max h.le (List.mem_of_getElem? hm)
 exact {
  bs:=he.bs
  lit:=hlit
  nd:=hcnd
  fls:=hfls
  ref:=by
   obtain ⟨d,hd,hs⟩:=h.cl.src k0 c0 hk0
   refine ref_conf hd fun z hz=>?_
   have hz0:=(hs z).2 hz
   refine ⟨((h.cl.ok k0 c0 hk0).2.2 z hz0).1.1,?_⟩
   obtain ⟨i,h1,h2⟩:=he.cf z hz0
   exact LE.told h hb he (fun y=>by
    rw [hmem]; constructor
    ·rintro (e | e)
     ·exact .inl e
     ·exact .inr ⟨r,ho,e⟩
    ·rintro (e | ⟨r2,e3,e4⟩)
     ·exact .inl e
     ·rw [ho] at e3; injection e3 with _ e3; subst e3; exact .inr e4) (Nat.lt_succ_self i) h1 (by rw [Int.natAbs_neg]; exact h2)
  new:=fun hdead d hd hs=>by
   rcases h.cov hdead d hd with ⟨n,hn1,hn2⟩ | ⟨k,x,hx1,hx2⟩ | ⟨u,i,hu1,hu2,hu3⟩
   ·have h1:=hfls n ((hs n).1 hn1)
    have h2:=hfls (-n) ((hs (-n)).1 hn2)
    rw [Int.neg_neg] at h2
    exact h.tv.not_both (hlit n ((hs n).1 hn1)) h2 h1
   ·
    have hxm:∀ y,y∈x↔y∈c:=fun y=>(hx2 y).trans (hs y)
    have hxok:=h.cl.ok k x hx1
    have hw:=(h.bnd b hb.mem).2 k
    match x,hxok,hx1,hxm with
    | p::q::tl,hxok,hx1,hxm=>
     have hw:=hw p q tl hx1
     have hpc:=(hxm p).1 (by simp)
     have hqc:=(hxm q).1 (by simp)
     have hpq:p≠q:=fun e=>by subst e; exact (List.nodup_cons.1 hxok.2.1).1 List.mem_cons_self
     have hlow2:∀ y∈c,y ≠ -t → -y∈s0.tr.take b:=fun y hy hyt=>by
      rcases (hmem y).1 hy with e | e
      ·exact absurd e hyt
      ·obtain ⟨i,h1,h2,_⟩:=hr1 y e
       exact List.mem_of_getElem? (take_of h2 h1)
     by_cases e:p = -t
     ·have h3:=hw.2 (hlow2 q hqc (fun e2=>hpq (e.trans e2.symm)))
      exact h.tv.not_both (hlit p hpc) (List.mem_of_mem_take h3) (hfls p hpc)
     ·have h3:=hw.1 (hlow2 p hpc e)
      exact h.tv.not_both (hlit q hqc) (List.mem_of_mem_take h3) (hfls q hqc)
    | [p],hxok,_,_=>exact absurd hxok.1 (by simp)
    | [],hxok,_,_=>exact absurd hxok.1 (by simp)
   ·have huc:=(hs u).1 hu1
    exact h.tv.not_both (hlit u huc) (List.mem_of_getElem? hu2) (hfls u huc)
  bk:=⟨lv0,m,hl1,hm,a0,r',hcr,fun hmm=>by
    rw [ha0,Int.neg_neg] at hmm
    obtain ⟨j,hj,e⟩:=List.getElem_of_mem hmm
    have h6:=take_at (List.getElem?_eq_getElem hj)
    rw [e] at h6
    have:=idx_one h h6.2 ha rfl
    omega,fun x hx=>by
    obtain ⟨i,L,g1,g2,g3,g4,g5,g6,g7⟩:=hlvl x hx
    have:i<m:=by
     by_cases c1:m≤i
     ·have:=(g7 lv0 m hm).1 c1; omega
     ·omega
    exact List.mem_of_getElem? (take_of this g1),hl3,fun x r'' e j m' hj hm' hmm=>by
    obtain ⟨i,g1,g2⟩:=hl4 x r'' e
    have g3:=g2 j m' hj hm'
    obtain ⟨q,hq,e⟩:=List.getElem_of_mem hmm
    have h6:=take_at (List.getElem?_eq_getElem hq)
    rw [e] at h6
    have:=idx_one h h6.2 g1 rfl
    omega⟩ }
end
end Go.Proofs.YthkhfbofhdfdoaaGreatDoor.slv
