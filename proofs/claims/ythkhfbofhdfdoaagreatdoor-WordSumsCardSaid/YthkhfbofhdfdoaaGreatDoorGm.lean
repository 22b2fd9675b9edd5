/- Plain laws and walks for the law WordSums; no condition. -/
namespace Go.Proofs.YthkhfbofhdfdoaaGreatDoor
namespace Gm
structure Gate where
 a:Nat
 b:Nat
 inp:Bool
def ins:List Gate→Nat
 | []=>0
 | g::r=>(if g.inp then 1 else 0)+ins r
theorem ins_append (l r:List Gate):ins (l++r)=ins l+ins r:=by
 induction l with
 | nil=>simp [ins]
 | cons x l ih=>simp only [List.cons_append,ins,ih]; omega
theorem ins_le (l:List Gate):ins l≤l.length:=by
 induction l with
 | nil=>simp [ins]
 | cons x l ih=>simp only [ins,List.length_cons]; split <;> omega
def find (a b:Nat):List Gate→Option Nat
 | []=>none
 | g::r=>if g.inp=false∧g.a=a∧g.b=b then some 0 else (find a b r).map (·+1)
theorem find_some {a b:Nat}:∀ {l:List Gate} {k:Nat},find a b l=some k→∃ g,l[k]? = some g∧g.inp=false∧g.a=a∧g.b=b
 | [],k,h=>by simp [find] at h
 | g::r,k,h=>by
  unfold find at h
  split at h
  ·rename_i hc
   simp only [Option.some.injEq] at h
   subst h
   exact ⟨g,rfl,hc⟩
  ·cases hf:find a b r with
   | none=>simp [hf] at h
   | some j=>
    simp only [hf,Option.map_some,Option.some.injEq] at h
    subst h
    obtain ⟨g',h1,h2⟩:=find_some hf
    exact ⟨g',by simpa using h1,h2⟩
theorem find_none {a b:Nat}:∀ {l:List Gate},find a b l=none→∀ (k:Nat) (g:Gate),l[k]? = some g→¬ (g.inp=false∧g.a=a∧g.b=b)
 | [],_,k,g,hk=>by simp at hk
 | x::r,h,k,g,hk=>by
  unfold find at h
  split at h
  ·simp at h
  ·rename_i hc
   have hr:find a b r=none:=by
    cases hf:find a b r with
    | none=>rfl
    | some j=>simp [hf] at h
   cases k with
   | zero=>simp only [List.getElem?_cons_zero,Option.some.injEq] at hk; subst hk; exact hc
   | succ k=>exact find_none hr k g (by simpa using hk)
theorem find_lt {a b:Nat} {l:List Gate} {k:Nat} (h:find a b l=some k):k<l.length:=by
 obtain ⟨g,hg,_⟩:=find_some h
 exact (List.getElem?_eq_some_iff.1 hg).1
theorem find_append {a b:Nat}:∀ (l r:List Gate),find a b (l++r)=(match find a b l with | some k=>some k | none=>(find a b r).map (·+l.length))
 | [],r=>by cases h:find a b r <;> simp [find,h]
 | x::l,r=>by
  simp only [List.cons_append,find]
  split
  ·rfl
  ·rw [find_append l r]
   cases find a b l with
   | some k=>simp
   | none=>cases find a b r <;> simp <;> omega
def notL (x:Nat):Nat:=if x%2=0 then x+1 else x-1
theorem notL_lt {x n:Nat} (h:x<2*n):notL x<2*n:=by unfold notL; split <;> omega
def has (gs:List Gate) (x:Nat):Prop:=x<2*gs.length+2
instance (gs:List Gate) (x:Nat):Decidable (has gs x):=inferInstanceAs (Decidable (_<_))
theorem has_not {gs:List Gate} {x:Nat} (h:has gs x):has gs (notL x):=by
 unfold has at *; exact notL_lt (n:=gs.length+1) (by omega)
def andG (gs:List Gate) (a b:Nat):List Gate×Nat:=
 if min a b=0∨(max a b=min a b+1∧min a b%2=0) then (gs,0)
 else if min a b=1∨min a b=max a b then (gs,max a b)
 else match find (min a b) (max a b) gs with
  | some k=>(gs,2*k+2)
  | none=>(gs++[⟨min a b,max a b,false⟩],2*gs.length+2)
def inpG (gs:List Gate):List Gate×Nat:=(gs++[⟨0,0,true⟩],2*gs.length+2)
def orG (gs:List Gate) (a b:Nat):List Gate×Nat:=((andG gs (notL a) (notL b)).1,notL (andG gs (notL a) (notL b)).2)
def orOf (gs:List Gate) (a b c d:Nat):List Gate×Nat:=
 let x:=andG gs a b
 let y:=andG x.1 c d
 orG y.1 x.2 y.2
def xorG (gs:List Gate) (a b:Nat):List Gate×Nat:=orOf gs a (notL b) (notL a) b
structure Wf (gs:List Gate):Prop where
 ahead:∀ (i:Nat) (g:Gate),gs[i]? = some g→g.inp=false→2≤g.a∧g.a<g.b∧g.b<2*i+2
 one:∀ (i j:Nat) (g h:Gate),gs[i]? = some g→gs[j]? = some h→g.inp=false→h.inp=false→g.a=h.a→g.b=h.b→i=j
 inputs:∀ (i:Nat) (g:Gate),gs[i]? = some g→g.inp=true→g.a=0∧g.b=0
def Ext (gs gs':List Gate):Prop:=∃ hs,gs'=gs++hs∧ins hs=0
theorem Ext.refl (gs:List Gate):Ext gs gs:=⟨[],by simp,rfl⟩
theorem Ext.trans {a b c:List Gate} (h:Ext a b) (k:Ext b c):Ext a c:=by
 obtain ⟨x,rfl,hx⟩:=h; obtain ⟨y,rfl,hy⟩:=k; exact ⟨x++y,by simp,by rw [ins_append,hx,hy]⟩
theorem Ext.len {a b:List Gate} (h:Ext a b):a.length≤b.length:=by obtain ⟨x,rfl,_⟩:=h; simp
theorem Ext.ins {a b:List Gate} (h:Ext a b):ins b=ins a:=by obtain ⟨x,rfl,hx⟩:=h; rw [ins_append,hx]; rfl
theorem Ext.has {a b:List Gate} (h:Ext a b) {x:Nat} (hx:has a x):has b x:=by
 have:=h.len; unfold Gm.has at *; omega
theorem Wf.nil:Wf []:=⟨fun i g h=>by simp at h,fun i j g h h1=>by simp at h1,fun i g h=>by simp at h⟩
theorem getElem?_snoc {α:Type} {l:List α} {x y:α} {i:Nat} (h:(l++[x])[i]? = some y):l[i]? = some y∨(i=l.length∧y=x):=by
 rcases Nat.lt_or_ge i l.length with hi | hi
 ·rw [List.getElem?_append_left hi] at h; exact .inl h
 ·rw [List.getElem?_append_right hi] at h
  have h0:i-l.length=0:=by
   rcases Nat.eq_zero_or_pos (i-l.length) with h0 | h0
   ·exact h0
   ·rw [List.getElem?_eq_none (by simp; omega)] at h; cases h
  rw [h0] at h
  exact .inr ⟨by omega,by simpa using h.symm⟩
theorem Wf.inp {gs:List Gate} (h:Wf gs):Wf (inpG gs).1:=by
 refine ⟨fun i g hg hi=>?_,fun i j g k hg hk hgi hki ha hb=>?_,fun i g hg hi=>?_⟩
 ·rcases getElem?_snoc hg with h1 | ⟨_,rfl⟩
  ·exact h.ahead i g h1 hi
  ·cases hi
 ·rcases getElem?_snoc hg with h1 | ⟨_,rfl⟩
  ·rcases getElem?_snoc hk with h2 | ⟨_,rfl⟩
   ·exact h.one i j g k h1 h2 hgi hki ha hb
   ·cases hki
  ·cases hgi
 ·rcases getElem?_snoc hg with h1 | ⟨_,rfl⟩
  ·exact h.inputs i g h1 hi
  ·exact ⟨rfl,rfl⟩
theorem andG_ext (gs:List Gate) (a b:Nat):Ext gs (andG gs a b).1:=by
 unfold andG; split
 ·exact .refl _
 ·split
  ·exact .refl _
  ·split
   ·exact .refl _
   ·exact ⟨_,rfl,rfl⟩
theorem andG_len (gs:List Gate) (a b:Nat):(andG gs a b).1.length≤gs.length+1:=by
 unfold andG; split
 ·simp
 ·split
  ·simp
  ·split <;> simp
theorem andG_has {gs:List Gate} {a b:Nat} (ha:has gs a) (hb:has gs b):has (andG gs a b).1 (andG gs a b).2:=by
 unfold andG has at *; split
 ·simp
 ·split
  ·simp only; omega
  ·split
   ·rename_i k hk
    have:=find_lt hk
    simp only; omega
   ·simp
theorem andG_wf {gs:List Gate} (h:Wf gs) {a b:Nat} (ha:has gs a) (hb:has gs b):Wf (andG gs a b).1:=by
 unfold andG; split
 ·exact h
 ·rename_i h0
  split
  ·exact h
  ·rename_i h1
   split
   ·exact h
   ·rename_i hf
    unfold has at ha hb
    refine ⟨fun i g hg hi=>?_,fun i j g k hg hk hgi hki ea eb=>?_,fun i g hg hi=>?_⟩
    ·rcases getElem?_snoc hg with h2 | ⟨rfl,rfl⟩
     ·exact h.ahead i g h2 hi
     ·simp only; omega
    ·rcases getElem?_snoc hg with h2 | ⟨rfl,rfl⟩
     ·rcases getElem?_snoc hk with h3 | ⟨rfl,rfl⟩
      ·exact h.one i j g k h2 h3 hgi hki ea eb
      ·exact absurd ⟨hgi,ea,eb⟩ (find_none hf i g h2)
     ·rcases getElem?_snoc hk with h3 | ⟨rfl,rfl⟩
      ·exact absurd ⟨hki,ea.symm,eb.symm⟩ (find_none hf j k h3)
      ·rfl
    ·rcases getElem?_snoc hg with h2 | ⟨rfl,rfl⟩
     ·exact h.inputs i g h2 hi
     ·cases hi
def litV (vs:List Bool) (x:Nat):Bool:=(vs.getD (x/2) false) != (x%2 == 1)
def step (inp:List Bool) (st:List Bool×Nat) (g:Gate):List Bool×Nat:=
 if g.inp then (st.1++[inp.getD st.2 false],st.2+1) else (st.1++[litV st.1 g.a&&litV st.1 g.b],st.2)
def run (inp:List Bool) (gs:List Gate):List Bool×Nat:=gs.foldl (step inp) ([false],0)
def vals (inp:List Bool) (gs:List Gate):List Bool:=(run inp gs).1
def ev (inp:List Bool) (gs:List Gate) (x:Nat):Bool:=litV (vals inp gs) x
theorem run_append (inp:List Bool) (l r:List Gate):run inp (l++r)=r.foldl (step inp) (run inp l):=by simp [run]
theorem run_snoc (inp:List Bool) (l:List Gate) (g:Gate):run inp (l++[g])=step inp (run inp l) g:=by simp [run]
theorem step_inp {inp:List Bool} {st:List Bool×Nat} {g:Gate} (h:g.inp=true):step inp st g=(st.1++[inp.getD st.2 false],st.2+1):=by
 unfold step; rw [if_pos h]
theorem step_and {inp:List Bool} {st:List Bool×Nat} {g:Gate} (h:g.inp=false):step inp st g=(st.1++[litV st.1 g.a&&litV st.1 g.b],st.2):=by
 unfold step; rw [if_neg (by rw [h]; simp)]
theorem fold_vals (inp:List Bool):∀ (r:List Gate) (st:List Bool×Nat),∃ t,(r.foldl (step inp) st).1=st.1++t∧t.length=r.length∧(r.foldl (step inp) st).2=st.2+ins r
 | [],st=>⟨[],by simp,rfl,by simp [ins]⟩
 | g::r,st=>by
  obtain ⟨t,h1,h2,h3⟩:=fold_vals inp r (step inp st g)
  simp only [List.foldl_cons]
  cases hg:g.inp with
  | true=>
   rw [step_inp hg] at h1 h3 ⊢
   exact ⟨inp.getD st.2 false::t,by rw [h1]; simp,by simp [h2],by rw [h3]; simp [ins,hg]; omega⟩
  | false=>
   rw [step_and hg] at h1 h3 ⊢
   exact ⟨(litV st.1 g.a&&litV st.1 g.b)::t,by rw [h1]; simp,by simp [h2],by rw [h3]; simp [ins,hg]⟩
theorem vals_length (inp:List Bool) (gs:List Gate):(vals inp gs).length=gs.length+1:=by
 obtain ⟨t,h1,h2,_⟩:=fold_vals inp gs ([false],0)
 unfold vals run; rw [h1]; simp [h2]
theorem vals_append (inp:List Bool) (l r:List Gate):∃ t,vals inp (l++r)=vals inp l++t:=by
 obtain ⟨t,h1,_⟩:=fold_vals inp r (run inp l)
 exact ⟨t,by unfold vals; rw [run_append,h1]⟩
theorem litV_append {v t:List Bool} {x:Nat} (h:x/2<v.length):litV (v++t) x=litV v x:=by
 unfold litV; simp [List.getD,List.getElem?_append_left h]
theorem ev_pre {inp:List Bool} {gs gs':List Gate} (he:∃ hs,gs'=gs++hs) {x:Nat} (hx:has gs x):ev inp gs' x=ev inp gs x:=by
 obtain ⟨hs,rfl⟩:=he
 obtain ⟨t,ht⟩:=vals_append inp gs hs
 unfold ev
 rw [ht]
 exact litV_append (by rw [vals_length]; unfold has at hx; omega)
theorem ev_ext {inp:List Bool} {gs gs':List Gate} (he:Ext gs gs') {x:Nat} (hx:has gs x):ev inp gs' x=ev inp gs x:=
 ev_pre (by obtain ⟨hs,h,_⟩:=he; exact ⟨hs,h⟩) hx
theorem ev_zero (inp:List Bool) (gs:List Gate):ev inp gs 0=false:=by
 have he:∃ hs,gs=[]++hs:=⟨gs,rfl⟩
 rw [ev_pre he (show has [] 0 by unfold has; simp)]; rfl
theorem ev_one (inp:List Bool) (gs:List Gate):ev inp gs 1=true:=by
 have he:∃ hs,gs=[]++hs:=⟨gs,rfl⟩
 rw [ev_pre he (show has [] 1 by unfold has; simp)]; rfl
theorem ev_not (inp:List Bool) (gs:List Gate) (x:Nat):ev inp gs (notL x) = !(ev inp gs x):=by
 unfold ev litV notL
 split
 ·rename_i h
  have h1:(x+1)/2=x/2:=by omega
  have h2:(x+1)%2=1:=by omega
  simp [h1,h2,h]
 ·rename_i h
  have h1:(x-1)/2=x/2:=by omega
  have h2:(x-1)%2=0:=by omega
  have h3:x%2=1:=by omega
  simp [h1,h2,h3]
theorem ev_new_and (inp:List Bool) (gs:List Gate) (a b:Nat):ev inp (gs++[⟨a,b,false⟩]) (2*gs.length+2)=(ev inp gs a&&ev inp gs b):=by
 have hl:=vals_length inp gs
 unfold ev
 have hv:vals inp (gs++[⟨a,b,false⟩])=vals inp gs++[litV (vals inp gs) a&&litV (vals inp gs) b]:=by
  unfold vals; rw [run_snoc]; simp [step]
 rw [hv]
 have h1:(2*gs.length+2)/2=(vals inp gs).length:=by omega
 have h2:(2*gs.length+2)%2=0:=by omega
 rw [litV,h1,h2]
 simp [List.getD]
theorem ev_gate {inp:List Bool} {gs:List Gate} (hw:Wf gs) {k:Nat} {g:Gate} (hk:gs[k]? = some g) (hg:g.inp=false) :
  ev inp gs (2*k+2)=(ev inp gs g.a&&ev inp gs g.b):=by
 have hlt:=(List.getElem?_eq_some_iff.1 hk).1
 obtain ⟨h1,h2,h3⟩:=hw.ahead k g hk hg
 have hsplit:gs=(gs.take k++[g])++gs.drop (k+1):=by
  have hgk:gs[k]=g:=by simpa [List.getElem?_eq_getElem hlt] using hk
  calc gs=gs.take k++gs.drop k:=(List.take_append_drop k gs).symm
   _=gs.take k++(gs[k]::gs.drop (k+1)):=by rw [List.drop_eq_getElem_cons hlt]
   _=_:=by rw [hgk]; simp
 have hlen:(gs.take k).length=k:=by simp; omega
 have e1:∃ hs,gs=(gs.take k++[g])++hs:=⟨_,hsplit⟩
 have e0:∃ hs,gs=gs.take k++hs:=⟨_,(List.take_append_drop k gs).symm⟩
 have hga:has (gs.take k) g.a:=by unfold has; omega
 have hgb:has (gs.take k) g.b:=by unfold has; omega
 rw [ev_pre e0 hga,ev_pre e0 hgb,ev_pre e1 (by unfold has; simp; omega)]
 obtain ⟨ga,gb,gi⟩:=g
 simp only at hg
 subst hg
 have:=ev_new_and inp (gs.take k) ga gb
 rw [hlen] at this
 exact this
theorem ev_and {inp:List Bool} {gs:List Gate} (hw:Wf gs) {a b:Nat} :
  ev inp (andG gs a b).1 (andG gs a b).2=(ev inp gs a&&ev inp gs b):=by
 have hmm:(ev inp gs a&&ev inp gs b)=(ev inp gs (min a b)&&ev inp gs (max a b)):=by
  rcases Nat.le_total a b with h | h
  ·rw [Nat.min_eq_left h,Nat.max_eq_right h]
  ·rw [Nat.min_eq_right h,Nat.max_eq_left h,Bool.and_comm]
 rw [hmm]
 unfold andG
 by_cases h0:min a b=0∨(max a b=min a b+1∧min a b%2=0)
 ·simp only [if_pos h0,ev_zero]
  rcases h0 with h0 | ⟨h0,h0'⟩
  ·rw [h0,ev_zero]; rfl
  ·have:max a b=notL (min a b):=by unfold notL; rw [if_pos h0']; exact h0
   rw [this,ev_not]; cases ev inp gs (min a b) <;> rfl
 ·simp only [if_neg h0]
  by_cases h1:min a b=1∨min a b=max a b
  ·simp only [if_pos h1]
   rcases h1 with h1 | h1
   ·rw [h1,ev_one]; rfl
   ·rw [← h1]; cases ev inp gs (min a b) <;> rfl
  ·simp only [if_neg h1]
   cases hf:find (min a b) (max a b) gs with
   | some k=>
    obtain ⟨g,hk,hi,e1,e2⟩:=find_some hf
    simp only [ev_gate hw hk hi,e1,e2]
   | none=>simp only [ev_new_and]
structure Comes (inp:List Bool) (gs:List Gate) (r:List Gate×Nat) (v:Bool):Prop where
 ext:Ext gs r.1
 wf:Wf r.1
 has:has r.1 r.2
 ev:ev inp r.1 r.2=v
theorem comes_and {inp:List Bool} {gs:List Gate} (hw:Wf gs) {a b:Nat} (ha:has gs a) (hb:has gs b) :
  Comes inp gs (andG gs a b) (ev inp gs a&&ev inp gs b):=
 ⟨andG_ext ..,andG_wf hw ha hb,andG_has ha hb,ev_and hw⟩
theorem comes_or {inp:List Bool} {gs:List Gate} (hw:Wf gs) {a b:Nat} (ha:has gs a) (hb:has gs b) :
  Comes inp gs (orG gs a b) (ev inp gs a||ev inp gs b):=by
 have h:=comes_and (inp:=inp) hw (has_not ha) (has_not hb)
 refine ⟨h.ext,h.wf,has_not h.has,?_⟩
 unfold orG
 simp only [ev_not,h.ev]
 cases ev inp gs a <;> cases ev inp gs b <;> rfl
theorem comes_orOf {inp:List Bool} {gs:List Gate} (hw:Wf gs) {a b c d:Nat} (ha:has gs a) (hb:has gs b) (hc:has gs c) (hd:has gs d) :
  Comes inp gs (orOf gs a b c d) ((ev inp gs a&&ev inp gs b)||(ev inp gs c&&ev inp gs d)):=by
 have h1:=comes_and (inp:=inp) hw ha hb
 have h2:=comes_and (inp:=inp) h1.wf (h1.ext.has hc) (h1.ext.has hd)
 have h3:=comes_or (inp:=inp) h2.wf (h2.ext.has h1.has) h2.has
 refine ⟨(h1.ext.trans h2.ext).trans h3.ext,h3.wf,h3.has,?_⟩
 have:=h3.ev
 unfold orOf
 rw [this,h2.ev,ev_ext h2.ext h1.has,h1.ev,ev_ext h1.ext hc,ev_ext h1.ext hd]
theorem comes_xor {inp:List Bool} {gs:List Gate} (hw:Wf gs) {a b:Nat} (ha:has gs a) (hb:has gs b) :
  Comes inp gs (xorG gs a b) (ev inp gs a != ev inp gs b):=by
 have h:=comes_orOf (inp:=inp) hw ha (has_not hb) (has_not ha) hb
 refine ⟨h.ext,h.wf,h.has,?_⟩
 have:=h.ev
 unfold xorG; rw [this,ev_not,ev_not]
 cases ev inp gs a <;> cases ev inp gs b <;> rfl
theorem orG_len (gs:List Gate) (a b:Nat):(orG gs a b).1.length≤gs.length+1:=andG_len ..
theorem orOf_len (gs:List Gate) (a b c d:Nat):(orOf gs a b c d).1.length≤gs.length+3:=by
 have h1:=andG_len gs a b
 have h2:=andG_len (andG gs a b).1 c d
 have h3:=orG_len (andG (andG gs a b).1 c d).1 (andG gs a b).2 (andG (andG gs a b).1 c d).2
 unfold orOf; simp only; omega
theorem ins_inp (gs:List Gate):ins (inpG gs).1=ins gs+1:=by simp [inpG,ins_append,ins]
theorem ins_and (gs:List Gate) (a b:Nat):ins (andG gs a b).1=ins gs:=by
 unfold andG; split
 ·rfl
 ·split
  ·rfl
  ·split
   ·rfl
   ·simp [ins_append,ins]
end Gm
end Go.Proofs.YthkhfbofhdfdoaaGreatDoor
namespace Go.Proofs.YthkhfbofhdfdoaaGreatDoor
def sumS (s:List Gm.Gate×List Nat×Nat) (p:Nat×Nat):List Gm.Gate×List Nat×Nat:=
 let r1:=Gm.xorG s.1 p.1 p.2
 let r2:=Gm.xorG r1.1 r1.2 s.2.2
 let r3:=Gm.andG r2.1 p.1 p.2
 let r4:=Gm.andG r3.1 r1.2 s.2.2
 let r5:=Gm.orG r4.1 r3.2 r4.2
 (r5.1,s.2.1++[r2.2],r5.2)
def sumZ (gs:List Gm.Gate) (xs ys:List Nat) (c:Nat):List Gm.Gate×List Nat×Nat:=(xs.zip ys).foldl sumS (gs,[],c)
def sameS (s:List Gm.Gate×Nat) (p:Nat×Nat):List Gm.Gate×Nat:=
 let r1:=Gm.xorG s.1 p.1 p.2
 Gm.andG r1.1 s.2 (Gm.notL r1.2)
def sameZ (gs:List Gm.Gate) (xs ys:List Nat):List Gm.Gate×Nat:=(xs.zip ys).foldl sameS (gs,1)
def inps (n:Nat):List Gm.Gate:=List.replicate n ⟨0,0,true⟩
theorem inps_length (n:Nat):(inps n).length=n:=by unfold inps; simp
theorem inps_succ (n:Nat):Gm.inpG (inps n)=(inps (n+1),2*n+2):=by
 unfold Gm.inpG; rw [inps_length]; unfold inps; rw [List.replicate_succ']
end Go.Proofs.YthkhfbofhdfdoaaGreatDoor
namespace Go.Proofs.YthkhfbofhdfdoaaGreatDoor
namespace Gm
theorem take_one {α:Type} {l:List α} {k:Nat} {x:α} (hk:l[k]? = some x):l.take (k+1)=l.take k++[x]:=by
 rw [List.take_add_one,hk]; rfl
end Gm
end Go.Proofs.YthkhfbofhdfdoaaGreatDoor
namespace Go.Proofs.YthkhfbofhdfdoaaGreatDoor
namespace Cn
inductive Reach (gs:List Gm.Gate) (rs:List Nat):Nat→Prop
 | root {r:Nat}:r∈rs→1≤r/2→Reach gs rs (r/2)
 | left {n:Nat} {g:Gm.Gate}:Reach gs rs (n+1)→gs[n]? = some g→g.inp=false→Reach gs rs (g.a/2)
 | right {n:Nat} {g:Gm.Gate}:Reach gs rs (n+1)→gs[n]? = some g→g.inp=false→Reach gs rs (g.b/2)
structure Dfs (gs:List Gm.Gate) (rs:List Nat) (nl:List Bool) (tl:List Nat):Prop where
 len:nl.length=gs.length+1
 zero:nl[0]? = some false
 sound:∀ n,nl[n]? = some true→Reach gs rs n
 todo:∀ n∈tl,n≤gs.length∧(n=0∨Reach gs rs n)
 roots:∀ r∈rs,r/2=0∨nl[r/2]? = some true∨r/2∈tl
 kids:∀ n g,nl[n+1]? = some true→gs[n]? = some g→g.inp=false→(nl[g.a/2]? = some true∨g.a/2∈tl)∧(nl[g.b/2]? = some true∨g.b/2∈tl)
def left (nl:List Bool):Nat:=(nl.filter (! ·)).length
theorem dfs_start {gs:List Gm.Gate} {rs:List Nat} (h:∀ r∈rs,Gm.has gs r):Dfs gs rs (List.replicate (gs.length+1) false) (rs.map (· / 2)):=by
 have no:∀ n,(List.replicate (gs.length+1) false)[n]? ≠ some true:=fun n hn=>by
  have:=List.mem_of_getElem? hn
  have:=List.eq_of_mem_replicate this
  cases this
 refine ⟨by simp,by simp,fun n hn=>absurd hn (no n),fun n hn=>?_,fun r hr=>.inr (.inr (List.mem_map_of_mem hr)),fun n g hn=>absurd hn (no _)⟩
 obtain ⟨r,hr,rfl⟩:=List.mem_map.1 hn
 have h1:=h r hr
 unfold Gm.has at h1
 refine ⟨by omega,?_⟩
 rcases Nat.eq_zero_or_pos (r/2) with h0 | h0
 ·exact .inl h0
 ·exact .inr (.root hr h0)
theorem dfs_skip {gs:List Gm.Gate} {rs:List Nat} {nl:List Bool} {tl:List Nat} {n:Nat} (h:Dfs gs rs nl (tl++[n])) (hn:n=0∨nl[n]? = some true) (hw:Gm.Wf gs):Dfs gs rs nl tl:=by
 refine ⟨h.len,h.zero,h.sound,fun k hk=>h.todo k (List.mem_append_left _ hk),fun r hr=>?_,fun k g hk hg hi=>?_⟩
 ·rcases h.roots r hr with h1 | h1 | h1
  ·exact .inl h1
  ·exact .inr (.inl h1)
  ·rcases List.mem_append.1 h1 with h1 | h1
   ·exact .inr (.inr h1)
   ·rw [List.mem_singleton.1 h1]
    rcases hn with h0 | h0
    ·exact .inl h0
    ·exact .inr (.inl h0)
 ·obtain ⟨h1,h2⟩:=h.kids k g hk hg hi
  obtain ⟨g1,g2,g3⟩:=hw.ahead k g hg hi
  refine ⟨?_,?_⟩
  ·rcases h1 with h1 | h1
   ·exact .inl h1
   ·rcases List.mem_append.1 h1 with h1 | h1
    ·exact .inr h1
    ·have e:=List.mem_singleton.1 h1
     rcases hn with h0 | h0
     ·omega
     ·rw [e]; exact .inl h0
  ·rcases h2 with h1 | h1
   ·exact .inl h1
   ·rcases List.mem_append.1 h1 with h1 | h1
    ·exact .inr h1
    ·have e:=List.mem_singleton.1 h1
     rcases hn with h0 | h0
     ·omega
     ·rw [e]; exact .inl h0
theorem set_true {nl:List Bool} {n k:Nat} (hn:n<nl.length):(nl.set n true)[k]? = some true↔(nl[k]? = some true∨k=n):=by
 rw [List.getElem?_set]
 constructor
 ·intro h
  split at h
  ·rename_i e; exact .inr e.symm
  ·exact .inl h
 ·rintro (h | rfl)
  ·split
   ·rename_i e; subst e; simp
   ·exact h
  ·simpa using hn
def kidsOf (g:Gm.Gate):List Nat:=if g.inp then [] else [g.a/2,g.b/2]
theorem dfs_mark {gs:List Gm.Gate} {rs:List Nat} {nl:List Bool} {tl:List Nat} {n:Nat} {g:Gm.Gate} (h:Dfs gs rs nl (tl++[n+1])) (hg:gs[n]? = some g) (hw:Gm.Wf gs) :
  Dfs gs rs (nl.set (n+1) true) (tl++kidsOf g):=by
 have hl:=(List.getElem?_eq_some_iff.1 hg).1
 have hs:=fun k=>set_true (k:=k) (show n+1<nl.length by have:=h.len; omega)
 have hrn:Reach gs rs (n+1):=by
  obtain ⟨_,h1⟩:=h.todo (n+1) (by simp)
  rcases h1 with h1 | h1
  ·omega
  ·exact h1
 have mem:∀ k,k∈tl++[n+1]→(nl.set (n+1) true)[k]? = some true∨k∈tl++kidsOf g:=fun k hk=>by
  rcases List.mem_append.1 hk with hk | hk
  ·exact .inr (List.mem_append_left _ hk)
  ·exact .inl ((hs k).2 (.inr (List.mem_singleton.1 hk)))
 refine ⟨by simp [h.len],?_,fun k hk=>?_,fun k hk=>?_,fun r hr=>?_,fun k g' hk hg' hi=>?_⟩
 ·rw [List.getElem?_set_ne (by omega)]; exact h.zero
 ·rcases (hs k).1 hk with h1 | rfl
  ·exact h.sound k h1
  ·exact hrn
 ·rcases List.mem_append.1 hk with hk | hk
  ·exact h.todo k (List.mem_append_left _ hk)
  ·unfold kidsOf at hk
   split at hk
   ·cases hk
   ·rename_i hi
    have hi':g.inp=false:=by simpa using hi
    obtain ⟨g1,g2,g3⟩:=hw.ahead n g hg hi'
    simp only [List.mem_cons,List.not_mem_nil,or_false] at hk
    rcases hk with rfl | rfl
    ·exact ⟨by omega,.inr (.left hrn hg hi')⟩
    ·exact ⟨by omega,.inr (.right hrn hg hi')⟩
 ·rcases h.roots r hr with h1 | h1 | h1
  ·exact .inl h1
  ·exact .inr (.inl ((hs _).2 (.inl h1)))
  ·exact .inr (mem _ h1)
 ·rcases (hs (k+1)).1 hk with h1 | h1
  ·obtain ⟨h2,h3⟩:=h.kids k g' h1 hg' hi
   constructor
   ·rcases h2 with h2 | h2
    ·exact .inl ((hs _).2 (.inl h2))
    ·exact mem _ h2
   ·rcases h3 with h2 | h2
    ·exact .inl ((hs _).2 (.inl h2))
    ·exact mem _ h2
  ·obtain rfl:k=n:=by omega
   rw [hg] at hg'
   injection hg' with hg'
   subst hg'
   unfold kidsOf
   rw [if_neg (by rw [hi]; simp)]
   exact ⟨.inr (by simp),.inr (by simp)⟩
theorem dfs_end {gs:List Gm.Gate} {rs:List Nat} {nl:List Bool} (h:Dfs gs rs nl []) {n:Nat}:nl[n]? = some true↔(1≤n∧Reach gs rs n):=by
 constructor
 ·intro hn
  refine ⟨?_,h.sound n hn⟩
  rcases Nat.eq_zero_or_pos n with h0 | h0
  ·subst h0; rw [h.zero] at hn; simp at hn
  ·exact h0
 ·rintro ⟨hn,hr⟩
  induction hr with
  | root hr h1=>
   rcases h.roots _ hr with h2 | h2 | h2
   ·omega
   ·exact h2
   ·cases h2
  | left hr hg hi ih=>
   obtain ⟨h2,_⟩:=h.kids _ _ (ih (by omega)) hg hi
   rcases h2 with h2 | h2
   ·exact h2
   ·cases h2
  | right hr hg hi ih=>
   obtain ⟨_,h2⟩:=h.kids _ _ (ih (by omega)) hg hi
   rcases h2 with h2 | h2
   ·exact h2
   ·cases h2
theorem left_set:∀ {nl:List Bool} {n:Nat},nl[n]? = some false→left (nl.set n true)+1=left nl
 | [],n,h=>by simp at h
 | b::l,0,h=>by
  simp only [List.getElem?_cons_zero,Option.some.injEq] at h
  subst h; simp [left]
 | b::l,n+1,h=>by
  have ih:=left_set (nl:=l) (n:=n) (by simpa using h)
  unfold left at ih ⊢
  cases b <;> simp at ih ⊢ <;> omega
theorem left_le (nl:List Bool):left nl≤nl.length:=List.length_filter_le _ _
def cnt (nl:List Bool) (k:Nat):Nat:=((nl.take k).filter id).length
theorem cnt_succ {nl:List Bool} {k:Nat} {b:Bool} (h:nl[k]? = some b):cnt nl (k+1)=cnt nl k+(if b then 1 else 0):=by
 unfold cnt
 rw [List.take_add_one,h,List.filter_append,List.length_append]
 cases b <;> rfl
theorem cnt_le (nl:List Bool) (k:Nat):cnt nl k≤k:=Nat.le_trans (List.length_filter_le _ _) (List.length_take_le _ _)
def numAt (nl:List Bool) (k:Nat):Nat:=if nl[k]? = some true then cnt nl (k+1) else 0
def numTo (nl:List Bool) (k:Nat):List Nat:=(List.range nl.length).map fun i=>if i<k then numAt nl i else 0
theorem numTo_length (nl:List Bool) (k:Nat):(numTo nl k).length=nl.length:=by unfold numTo; simp
theorem numTo_zero (nl:List Bool):numTo nl 0=List.replicate nl.length 0:=by
 unfold numTo; rw [List.eq_replicate_iff]; simp
theorem numTo_get {nl:List Bool} {k i:Nat} (hi:i<nl.length):(numTo nl k)[i]? = some (if i<k then numAt nl i else 0):=by
 unfold numTo; rw [List.getElem?_map,List.getElem?_range hi]; rfl
theorem numTo_succ {nl:List Bool} {k:Nat} (hk:k<nl.length):numTo nl (k+1)=(numTo nl k).set k (numAt nl k):=by
 apply List.ext_getElem?
 intro i
 rw [List.getElem?_set,numTo_length]
 by_cases hi:i<nl.length
 ·rw [numTo_get hi,numTo_get hi]
  by_cases e:k=i
  ·subst e; simp [hk]
  ·rw [if_neg e]
   by_cases h1:i<k
   ·rw [if_pos h1,if_pos (by omega)]
   ·rw [if_neg h1,if_neg (by omega)]
 ·rw [List.getElem?_eq_none (by rw [numTo_length]; omega),List.getElem?_eq_none (by rw [numTo_length]; omega)]
  split
  ·rename_i e; omega
  ·rfl
theorem numTo_skip {nl:List Bool} {k:Nat} (hk:nl[k]? = some false):numTo nl (k+1)=numTo nl k:=by
 rw [numTo_succ (List.getElem?_eq_some_iff.1 hk).1]
 have:numAt nl k=0:=by unfold numAt; rw [hk]; simp
 rw [this]
 apply List.ext_getElem?
 intro i
 rw [List.getElem?_set,numTo_length]
 split
 ·rename_i e; subst e
  have hl:=(List.getElem?_eq_some_iff.1 hk).1
  rw [if_pos hl,numTo_get hl,if_neg (by omega)]
 ·rfl
def nums (nl:List Bool):List Nat:=numTo nl nl.length
def litN (nl:List Bool) (a:Nat):Int:=if a%2=1 then -((numAt nl (a/2):Nat):Int) else (numAt nl (a/2):Nat)
def gateC (nl:List Bool) (n:Nat) (g:Gm.Gate):List (List Int):=
 if nl[n+1]? = some true∧g.inp=false then [[-((numAt nl (n+1):Nat):Int),litN nl g.a],[-((numAt nl (n+1):Nat):Int),litN nl g.b],[((numAt nl (n+1):Nat):Int),-litN nl g.a,-litN nl g.b]] else []
def gatesC (nl:List Bool):Nat→List Gm.Gate→List (List Int)
 | _,[]=>[]
 | n,g::r=>gateC nl n g++gatesC nl (n+1) r
theorem gatesC_snoc (nl:List Bool):∀ (l:List Gm.Gate) (n:Nat) (g:Gm.Gate),gatesC nl n (l++[g])=gatesC nl n l++gateC nl (n+l.length) g
 | [],n,g=>by simp [gatesC]
 | x::l,n,g=>by
  simp only [List.cons_append,gatesC,gatesC_snoc nl l (n+1) g,List.length_cons,List.append_assoc]
  congr 3; omega
def rootC (nl:List Bool) (a:Nat):List (List Int):=if a=0 then [[]] else if a=1 then [] else [[litN nl a]]
def rootsC (nl:List Bool) (rs:List Nat):List (List Int):=(rs.map (rootC nl)).flatten
def clausesC (gs:List Gm.Gate) (nl:List Bool) (rs:List Nat):List (List Int):=gatesC nl 0 gs++rootsC nl rs
end Cn
end Go.Proofs.YthkhfbofhdfdoaaGreatDoor
