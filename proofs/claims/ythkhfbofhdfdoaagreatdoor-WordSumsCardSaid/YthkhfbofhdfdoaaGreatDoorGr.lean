/- Plain laws and walks for the law WordSums; no condition. -/
import Derived.Test.YthkhfbofhdfdoaaGreatDoorProg
import Derived.Test.YthkhfbofhdfdoaaGreatDoorGm
import Derived.Test.YthkhfbofhdfdoaaGreatDoorBa
import Derived.LaidEql
import Derived.Stop.Asserts
import Derived.RowKitTokens
import Derived.Deep.DeepCutAuto
import Derived.Deep.CutBlock
import Derived.Outline
import Derived.Test.YthkhfbofhdfdoaaGreatDoorRj
namespace Go.Proofs.YthkhfbofhdfdoaaGreatDoor
open Go.RowKit
def gateCells:Nat→List Gm.Gate→List Value
 | _,[]=>[]
 | n,g::r=>.int .i64 g.a::.int .i64 g.b::.int .i64 ((if g.inp then n+1 else 0:Nat):Int)::gateCells (if g.inp then n+1 else n) r
theorem gateCells_append (n:Nat) (l r:List Gm.Gate):gateCells n (l++r)=gateCells n l++gateCells (n+Gm.ins l) r:=by
 induction l generalizing n with
 | nil=>simp [gateCells,Gm.ins]
 | cons g l ih=>
  simp only [List.cons_append,gateCells,ih,Gm.ins]
  congr 5
  split <;> omega
theorem gateCells_at (n:Nat) (l:List Gm.Gate) (i:Nat) (g:Gm.Gate) (h:l[i]? = some g) :
  (gateCells n l)[i*3]? = some (.int .i64 g.a)∧(gateCells n l)[i*3+1]? = some (.int .i64 g.b) ∧
   (gateCells n l)[i*3+2]? = some (.int .i64 ((if g.inp then n+Gm.ins (l.take i)+1 else 0:Nat):Int)):=by
 induction l generalizing n i with
 | nil=>simp at h
 | cons x l ih=>
  cases i with
  | zero=>
   simp only [List.getElem?_cons_zero,Option.some.injEq] at h
   subst h
   simp [gateCells,Gm.ins]
  | succ i=>
   have:=ih (if x.inp then n+1 else n) i (by simpa using h)
   have e:(i+1)*3=i*3+1+1+1:=by omega
   simp only [e,gateCells,List.getElem?_cons_succ,List.take_succ_cons,Gm.ins]
   refine ⟨this.1,this.2.1,?_⟩
   have h3:=this.2.2
   rw [h3]
   congr 3
   split <;> (try split) <;> omega
def MapAt (w:World) (base:Nat) (gs:List Gm.Gate):Option Nat→Prop
 | none=>∀ a b,Gm.find a b gs=none
 | some m=>base≤m∧∃ D:DataW Unit,w.ownsMap Tryz.prog 133 (plainElem Tryz.prog 3) m gs.length D ∧
   ∀ a b:Nat,a≤1000000→b≤1000000 →
    (Gm.find a b gs=none→Maps.has D (kl a b)=false) ∧
    (∀ k,Gm.find a b gs=some k→Maps.has D (kl a b)=true∧D.atKey (kl a b) (.lit (.int .i64 0)) = .lit (.int .i64 ((k:Int)+1)))
structure GraphAt (w:World) (base b:Nat) (mb:Option Nat) (gs:List Gm.Gate):Prop where
 wf:Gm.Wf gs
 len:gs.length<100000
 hb:base≤b
 ex:∃ sv,Blk w b 27 #[sv,.int .i64 (Gm.ins gs:Int),.map mb]∧w.ownsRow base 54 3 sv gs.length (gateCells 0 gs)
 hm:MapAt w base gs mb
def GS (base b:Nat) (mb:Option Nat) (k:Nat) (o:Obj):Prop:=k=b∨some k=mb∨(base≤k∧elemOf o=some 54)
theorem GraphAt.chg {w w':World} {base b:Nat} {mb:Option Nat} {gs:List Gm.Gate} {S:Nat→Obj→Prop} (h:GraphAt w base b mb gs) (hc:Chg S w w')
  (h1:∀ cs,¬ S b (.cells cs 27 (0,0))) (h2:∀ k cs,base≤k→¬ S k (.cells cs 54 (0,0))) (h3:∀ m es c,mb=some m→¬ S m (.map es c)):GraphAt w' base b mb gs:=by
 refine ⟨h.wf,h.len,h.hb,?_,?_⟩
 ·obtain ⟨sv,hblk,hrow⟩:=h.ex
  exact ⟨sv,hblk.chg hc (h1 _),own_chg hrow hc fun g cur hg _=>h2 g cur hg⟩
 ·cases mb with
  | none=>exact h.hm
  | some m=>
   obtain ⟨hm,D,hD,hf⟩:=h.hm
   exact ⟨hm,D,ownsMap_chg hD hc (fun es c=>h3 m es c rfl),hf⟩
theorem GraphAt.new {w w':World} {base b:Nat} {mb:Option Nat} {gs:List Gm.Gate} (h:GraphAt w base b mb gs) (hb:Below w.heap.size w w'):GraphAt w' base b mb gs:=
 h.chg (S:=fun _ _=>False) (.of_new hb) (by simp) (by simp) (by simp)
theorem GraphAt.drewN {w:World} {base b:Nat} {mb:Option Nat} {gs:List Gm.Gate} (h:GraphAt w base b mb gs) (n:Nat):GraphAt (w.drewN n) base b mb gs:=
 h.chg (S:=fun _ _=>False) ((Chg.refl _ _).drewN n) (by simp) (by simp) (by simp)
theorem xor_one (a:Nat):a ^^^ 1=Gm.notL a:=by
 have h:=Nat.xor_div_two (a:=a) (b:=1)
 rw [show (1:Nat)/2=0 from rfl,Nat.xor_zero] at h
 have h2:=Nat.xor_mod_two_eq_one (a:=a) (b:=1)
 unfold Gm.notL
 split
 ·omega
 ·omega
theorem not_any (a:Nat) (w:World) (ha:a≤1000000):Calls Tryz.prog 20 #[.int .i64 a] w fun e w'=>e = .returned (.int .i64 (Gm.notL a:Nat))∧w=w':=by
 have hx:bits BinOp.xor IntKind.i64 (a:Int) 1=((Gm.notL a:Nat):Int):=by
  rw [← xor_one]; exact i64_xor_nat a 1 (by omega) (by omega)
 have Hx:=Lib.hid hx
 clear hx
 go_enter Tryz.func20,Tryz.ntmps20
 go_wp2
 go_ret
 exact ⟨by rw [← Hx.out]; rfl,rfl⟩
def hasB (n:Nat) (a:Int):Bool:=decide (0≤a)&&decide (a<2*n+2)
theorem gates_at {w:World} {b l c:Nat} {g:Option Addr} {x y:Value} (hl:l<100000) (h:Blk w b 27 #[.slice g l c,x,y]) :
  Calls Tryz.prog 23 #[.pointer (some ⟨b,0,none⟩)] w fun e w'=>e = .returned (.int .i64 (1+(l:Int)))∧w=w':=by
 have h0:w.cell? ⟨b,0,none⟩=some (.slice g l c):=h.cell 0
 clear h
 go_enter Tryz.func23,Tryz.ntmps23
 go_wp2
 go_ret
 exact ⟨rfl,rfl⟩
theorem hasB_eq {l:Nat} {a:Int} (h:0≤a):decide (a/2<1+(l:Int))=hasB l a:=by
 unfold hasB
 have:decide (0≤a)=true:=by simpa using h
 rw [this,Bool.true_and]
 by_cases h1:a<2*(l:Int)+2
 ·rw [decide_eq_true h1,decide_eq_true (by omega)]
 ·rw [decide_eq_false h1,decide_eq_false (by omega)]
theorem has_at {w:World} {b l c:Nat} {g:Option Addr} {x y:Value} (a:Int) (ha:(Lit.int .i64 a).wf=true) (hl:l<100000) (h:Blk w b 27 #[.slice g l c,x,y]) :
  Calls Tryz.prog 14 #[.pointer (some ⟨b,0,none⟩),.int .i64 a] w fun e w'=>e = .returned (.bool (hasB l a))∧w=w':=by
 have hbd : -9223372036854775808≤a∧a≤9223372036854775807:=by simpa [Lit.wf,IntKind.min,IntKind.max,IntKind.signed,IntKind.bits] using ha
 by_cases h0:0≤a
 ·have hg:=gates_at hl h
  have He:=Lib.hid (hasB_eq (l:=l) h0)
  clear ha h
  go_enter Tryz.func14,Tryz.ntmps14
  go_wp2_with (go_at_call 23; refine hg.mono ?_; rintro e w' ⟨rfl,rfl⟩)
  go_ret
  exact ⟨by rw [← He.out]; rfl,rfl⟩
 ·have hf:hasB l a=false:=by unfold hasB; simp; omega
  have Hf:=Lib.hid hf
  clear hf ha h
  go_enter Tryz.func14,Tryz.ntmps14
  go_wp2
  go_ret
  exact ⟨by rw [Hf.out]; rfl,rfl⟩
theorem infoGate:(Tryz.prog.info? 54).map (fun i=>(i.zero,i.size,i.bytes))=some (some (.agg #[.int .i64 0,.int .i64 0,.int .i64 0]),3,24):=by kernel_rfl
theorem own_GS {w:World} {base b n:Nat} {mb:Option Nat} {v:Value} {xs:List Value} (h:w.ownsRow base 54 3 v n xs):∀ k o,v.ownBlock=some k→w.heap[k]? = some o→GS base b mb k o:=by
 intro k o hk ho
 rcases h.2 with ⟨rfl,_⟩ | ⟨g,cap,cur,rfl,hb,hg,_⟩
 ·simp [Value.ownBlock] at hk
 ·simp only [Value.ownBlock,Option.some.injEq] at hk
  subst hk
  rw [hg] at ho
  injection ho with ho
  subst ho
  exact .inr (.inr ⟨hb,rfl⟩)
theorem add_end {w w1:World} {base b n:Nat} {cells news:List Value} {sv sv1 y z:Value} {o1 o2:Obj} (hrow:w.ownsRow base 54 3 sv n cells) (hB:Blk w1 b 27 #[sv,y,z])
  (hO:w1.ownsRow base 54 3 sv1 (n+1) (cells++news)) (hG:(((w.alloc o1).alloc o2).drew).grownBy w1 sv.ownBlock) :
  ∃ sv',Blk (w1.setCell ⟨b,0,none⟩ sv1) b 27 #[sv',y,z]∧(w1.setCell ⟨b,0,none⟩ sv1).ownsRow base 54 3 sv' (n+1) (cells++news)∧Chg (GS base b none) w (w1.setCell ⟨b,0,none⟩ sv1):=by
 refine ⟨sv1,by simpa using hB.set_ 0 sv1,?_,?_⟩
 ·have hne:=own_blk_ne hO hB (by decide)
  refine hO.kept (row:=some b) ⟨rfl,rfl,rfl,by simp [World.setCell],fun k hk hn=>Below.heap_setCell _ _ _ _ (fun e=>hn (by rw [e]))⟩ ?_
  exact .inr hne
 ·refine Chg.setCell ?_ (.inr fun o=>.inl rfl) _
  exact ((((Chg.refl _ w).alloc o1).alloc o2).drew).grown hG (own_GS hrow)
theorem add_room {w:World} {base b:Nat} {n:Nat} {cells:List Value} {sv y z:Value} (x0 x1 x2:Int) (hb:base≤b) (hblk:Blk w b 27 #[sv,y,z]) (hrow:w.ownsRow base 54 3 sv n cells) (hn:n<99999) :
  Calls Tryz.prog 12 #[.pointer (some ⟨b,0,none⟩),.agg #[.int .i64 x0,.int .i64 x1,.int .i64 x2]] w fun e w'=>
   e = .returned (.tuple #[.int .i64 (2*(n+1:Nat)),.nilIface])∧∃ sv',Blk w' b 27 #[sv',y,z]∧w'.ownsRow base 54 3 sv' (n+1) (cells++[.int .i64 x0,.int .i64 x1,.int .i64 x2])∧Chg (GS base b none) w w':=by
 obtain ⟨i0,hi,hz0,hz1,hz2⟩:=info_parts infoGate
 obtain ⟨ga,gl,gc,rfl⟩:∃ ga gl gc,sv = .slice ga gl gc:=by
  rcases hrow.2 with ⟨h,_⟩ | ⟨g,cap,_,h,_⟩
  ·exact ⟨_,_,_,h⟩
  ·exact ⟨_,_,_,h⟩
 obtain rfl:gl=n:=by
  rcases hrow.2 with ⟨h,h0⟩ | ⟨g,cap,_,h,_⟩
  ·simp only [Value.slice.injEq] at h; omega
  ·simp only [Value.slice.injEq] at h; exact h.2.1
 have h0:w.cell? ⟨b,0,none⟩=some (.slice ga gl gc):=hblk.cell 0
 have hf0:w.frozen? ⟨b,0,none⟩=false:=hblk.frozen 0
 have hlt:=hblk.lt
 have HB:=Lib.hid hblk
 have HR:=Lib.hid hrow
 have ht:decide ((100000:Int)≤1+(gl:Int))=false:=decide_eq_false (by omega)
 have hl2:gl<100000:=by omega
 have HN:=Lib.hid hl2
 have HW:Hid (wrap64 (2*((gl:Int)+1))=2*((gl+1:Nat):Int)):=(wrap64_id (by omega) (by omega)).trans (by omega)
 clear hblk hrow hn hl2
 go_enter Tryz.func12,Tryz.ntmps12
 go_wp2_with (go_at_call 23; refine (gates_at HN.out (HB.out.alloc _)).mono ?_; rintro e w' ⟨rfl,rfl⟩)
 have Hm:Hid (gl+1≤maxLen∧(gl+1)*24≤140737488355328):=⟨by have:=HN.out; unfold maxLen; omega,by have:=HN.out; omega⟩
 go_region_law (
  refine step_append_sl _ rfl (.tmp 14) (.tmp 16) _ rfl base 54 i0 _ 3 24 Tryz.underlying24 hi hz0 hz1 hz2 rfl (by omega) (.slice ga gl gc) gl cells rfl ((HR.out.alloc _).alloc _) (w.heap.size+2) (some ⟨w.heap.size+1,0,none⟩) 1 1 [.int .i64 x0,.int .i64 x1,.int .i64 x2] rfl ?_ ?_ Hm.out.1 Hm.out.2 ?_ ?_
  ·exact (reads_new (by simp) (by omega) rfl).drew
  ·exact ints_one (by simp)
  ·simp; omega
  intro A1 c1 w1 hown1 hg1
  have hB1:=(((HB.out.alloc _).alloc _).drew).grown hg1 (own_blk_ne HR.out HB.out (by decide)).symm
  have k0:w1.cell? ⟨b,0,none⟩=some (.slice ga gl gc):=hB1.cell 0
  have k1:w1.frozen? ⟨b,0,none⟩=false:=hB1.frozen 0
  have HB1:=Lib.hid hB1
  have HO1:=Lib.hid hown1
  have HG1:=Lib.hid hg1
  clear hB1 hown1 hg1)
 all_goals
  go_wp2
  go_ret2
  exact ⟨by rw [← HW.out]; rfl,add_end HR.out HB1.out HO1.out HG1.out⟩
def GPost (w:World) (base b:Nat) (mb:Option Nat) (r:List Gm.Gate×Nat) (e:Ending) (w':World):Prop:=
 e = .returned (.tuple #[.int .i64 (r.2:Nat),.nilIface])∧∃ mb',GraphAt w' base b mb' r.1∧Chg (GS base b mb) w w'∧(mb'=mb∨∃ m,mb'=some m∧w.heap.size≤m)
theorem GS_trans {w w1 w2:World} {base b:Nat} {mb mb1:Option Nat} (h:Chg (GS base b mb) w w1) (h1:mb1=mb∨∃ m,mb1=some m∧w.heap.size≤m) (k:Chg (GS base b mb1) w1 w2):Chg (GS base b mb) w w2:=by
 refine h.trans' k fun i o hi hs=>?_
 rcases hs with hs | hs | hs
 ·exact .inl hs
 ·rcases h1 with rfl | ⟨m,rfl,hm⟩
  ·exact .inr (.inl hs)
  ·have:=lt_of_heap hi
   injection hs with hs
   omega
 ·exact .inr (.inr hs)
theorem mb_trans {w w1:World} {mb mb1 mb2:Option Nat} (hs:w.heap.size≤w1.heap.size) (h1:mb1=mb∨∃ m,mb1=some m∧w.heap.size≤m) (h2:mb2=mb1∨∃ m,mb2=some m∧w1.heap.size≤m):mb2=mb∨∃ m,mb2=some m∧w.heap.size≤m:=by
 rcases h2 with rfl | ⟨m,rfl,hm⟩
 ·exact h1
 ·exact .inr ⟨m,rfl,by omega⟩
theorem input_end {w w1:World} {base b:Nat} {mb:Option Nat} {gs:List Gm.Gate} {sv':Value} (hg:GraphAt w base b mb gs) (hn:gs.length<99999)
  (h1:Blk w1 b 27 #[sv',.int .i64 (Gm.ins gs:Int),.map mb]) (h2:w1.ownsRow base 54 3 sv' (gs.length+1) (gateCells 0 gs++[.int .i64 0,.int .i64 0,.int .i64 ((Gm.ins gs:Int)+1)])) (h3:Chg (GS base b none) w w1) :
  GPost w base b mb (Gm.inpG gs) (.returned (.tuple #[.int .i64 (2*(gs.length+1:Nat)),.nilIface])) (w1.setCell ⟨b,1,none⟩ (.int .i64 ((Gm.ins gs:Int)+1))):=by
 have hb:=hg.hb
 have hc:Chg (GS base b mb) w (w1.setCell ⟨b,1,none⟩ (.int .i64 ((Gm.ins gs:Int)+1))):=
  (h3.mono fun k o _ hs=>by
   rcases hs with hs | hs | hs
   ·exact .inl hs
   ·cases hs
   ·exact .inr (.inr hs)).setCell (.inr fun o=>.inl rfl) _
 refine ⟨by simp [Gm.inpG]; omega,mb,⟨hg.wf.inp,by simp [Gm.inpG]; omega,hb,⟨sv',?_,?_⟩,?_⟩,hc,.inl rfl⟩
 ·rw [Gm.ins_inp]
  have:=h1.set_ 1 (.int .i64 ((Gm.ins gs:Int)+1))
  simpa using this
 ·have hne:=own_blk_ne h2 h1 (by decide)
  have h2':(w1.setCell ⟨b,1,none⟩ (.int .i64 ((Gm.ins gs:Int)+1))).ownsRow base 54 3 sv' (gs.length+1) (gateCells 0 gs++[.int .i64 0,.int .i64 0,.int .i64 ((Gm.ins gs:Int)+1)]):=
   h2.kept (row:=some b) ⟨rfl,rfl,rfl,by simp [World.setCell],fun k hk hn=>Below.heap_setCell _ _ _ _ (fun e=>hn (by rw [e]))⟩ (.inr hne)
  simpa [Gm.inpG,gateCells_append,gateCells] using h2'
 ·have hm:=hg.hm
  have hf:∀ a b,Gm.find a b (Gm.inpG gs).1=Gm.find a b gs:=fun a b=>by
   unfold Gm.inpG
   rw [Gm.find_append]
   cases Gm.find a b gs <;> simp [Gm.find]
  cases mb with
  | none=>intro a b; rw [hf]; exact hm a b
  | some m=>
   obtain ⟨h4,D,hD,hh⟩:=hm
   refine ⟨h4,D,?_,fun a b ha hb=>by rw [hf]; exact hh a b ha hb⟩
   have hD1:=ownsMap_chg hD h3 (fun es c hs=>by
    rcases hs with hs | hs | hs
    ·subst hs
     obtain ⟨es',c',hh',_⟩:=hD
     obtain ⟨sv0,hb0,_⟩:=hg.ex
     unfold Blk at hb0
     rw [hh'] at hb0
     cases hb0
    ·cases hs
    ·cases hs.2)
   have hne:m≠b:=fun e=>by
    subst e
    obtain ⟨es',c',hh',_⟩:=hD1
    unfold Blk at h1
    rw [hh'] at h1
    cases h1
   exact (hD1.setCell (a:=⟨b,1,none⟩) hne _).mono (by simp [Gm.inpG])
theorem input_room {w:World} {base b:Nat} {mb:Option Nat} {gs:List Gm.Gate} (hg:GraphAt w base b mb gs) (hn:gs.length<99999) :
  Calls Tryz.prog 6 #[.pointer (some ⟨b,0,none⟩)] w (GPost w base b mb (Gm.inpG gs)):=by
 obtain ⟨sv,hblk,hrow⟩:=hg.ex
 have hil:=Gm.ins_le gs
 have c1:w.cell? ⟨b,1,none⟩=some (.int .i64 (Gm.ins gs:Int)):=hblk.cell 1
 obtain ⟨ni,hni⟩:∃ ni,ni=Gm.ins gs:=⟨_,rfl⟩
 rw [← hni] at c1 hblk hil
 have hbd:(ni:Int)≤1000000:=by omega
 have HB:=Lib.hid hblk
 have HR:=Lib.hid hrow
 have HN:=Lib.hid hn
 have HI:=Lib.hid hni
 have HG:=Lib.hid hg
 clear hblk hrow hn hni hil hg
 go_enter Tryz.func6,Tryz.ntmps6
 go_wp2_with fail
 refine (add_room 0 0 _ HG.out.hb HB.out HR.out HN.out).mono ?_
 rintro e w1 ⟨rfl,sv',h1,h2,h3⟩
 have k1:w1.cell? ⟨b,1,none⟩=some (.int .i64 (ni:Int)):=h1.cell 1
 have k2:w1.frozen? ⟨b,1,none⟩=false:=h1.frozen 1
 have H1:=Lib.hid h1
 have H2:=Lib.hid h2
 have H3:=Lib.hid h3
 clear h1 h2 h3
 go_wp2
 go_ret2
 have hi:=HI.out
 subst hi
 exact input_end HG.out HN.out H1.out H2.out H3.out
end Go.Proofs.YthkhfbofhdfdoaaGreatDoor
namespace Go.Proofs.YthkhfbofhdfdoaaGreatDoor
open Go.RowKit
theorem wf_small {n:Nat} (h:n≤1000000):(Lit.int .i64 (n:Int)).wf=true:=by
 simp [Lit.wf,IntKind.min,IntKind.max,IntKind.signed,IntKind.bits]; omega
theorem hasB_nat {n a:Nat}:hasB n (a:Int)=decide (a<2*n+2):=by
 unfold hasB
 rw [decide_eq_true (show (0:Int)≤a by omega),Bool.true_and]
 by_cases h:a<2*n+2
 ·rw [decide_eq_true h,decide_eq_true (by omega)]
 ·rw [decide_eq_false h,decide_eq_false (by omega)]
theorem has_yes {w:World} {base b:Nat} {mb:Option Nat} {gs:List Gm.Gate} (hg:GraphAt w base b mb gs) {a:Nat} (ha:Gm.has gs a) :
  Calls Tryz.prog 14 #[.pointer (some ⟨b,0,none⟩),.int .i64 a] w fun e w'=>e = .returned (.bool true)∧w=w':=by
 obtain ⟨sv,hblk,hrow⟩:=hg.ex
 obtain ⟨A,c,rfl⟩:=own_form hrow
 have hl:=hg.len
 unfold Gm.has at ha
 have h:=has_at (a:Int) (wf_small (by omega)) hl hblk
 rw [hasB_nat,decide_eq_true ha] at h
 exact h
theorem post_same {w:World} {base b:Nat} {mb:Option Nat} {gs:List Gm.Gate} (hg:GraphAt w base b mb gs) {l:Nat} {i:Int} (hi:i=(l:Int)):GPost w base b mb (gs,l) (.returned (.tuple #[.int .i64 i,.nilIface])) w:=by
 subst hi
 exact ⟨rfl,mb,hg,Chg.refl _ _,.inl rfl⟩
theorem andG_zero {gs:List Gm.Gate} {x y:Nat} (h:min x y=0∨(max x y=min x y+1∧min x y%2=0)):Gm.andG gs x y=(gs,0):=by
 unfold Gm.andG; rw [if_pos h]
theorem andG_one {gs:List Gm.Gate} {x y:Nat} (h0:¬ (min x y=0∨(max x y=min x y+1∧min x y%2=0))) (h:min x y=1∨min x y=max x y):Gm.andG gs x y=(gs,max x y):=by
 unfold Gm.andG; rw [if_neg h0,if_pos h]
theorem andG_some {gs:List Gm.Gate} {x y k:Nat} (h0:¬ (min x y=0∨(max x y=min x y+1∧min x y%2=0))) (h:¬ (min x y=1∨min x y=max x y)) (hk:Gm.find (min x y) (max x y) gs=some k):Gm.andG gs x y=(gs,2*k+2):=by
 unfold Gm.andG; rw [if_neg h0,if_neg h,hk]
theorem andG_none {gs:List Gm.Gate} {x y:Nat} (h0:¬ (min x y=0∨(max x y=min x y+1∧min x y%2=0))) (h:¬ (min x y=1∨min x y=max x y)) (hk:Gm.find (min x y) (max x y) gs=none):Gm.andG gs x y=(gs++[⟨min x y,max x y,false⟩],2*gs.length+2):=by
 unfold Gm.andG; rw [if_neg h0,if_neg h,hk]
theorem notL_eq {x y:Nat} (h:x≤y):x=Gm.notL y↔(y=x+1∧x%2=0):=by
 unfold Gm.notL; split <;> omega
set_option maxHeartbeats 400000 in
theorem and_zero_a {w:World} {base b:Nat} {mb:Option Nat} {gs:List Gm.Gate} (hg:GraphAt w base b mb gs) {lo hi:Nat} (hlo:Gm.has gs lo) (hhi:Gm.has gs hi) (hlt:lo<hi) (h0:lo=0) :
  Calls Tryz.prog 61 #[.pointer (some ⟨b,0,none⟩),.int .i64 lo,.int .i64 hi] w (GPost w base b mb (gs,0)):=by
 have hl:=hg.len
 have C1:=Lib.hid (has_yes hg hlo)
 have C2:=Lib.hid (has_yes hg hhi)
 have HG:=Lib.hid hg
 have e0:((lo:Int) == 0)=true:=by simp [h0]
 clear hg hlo hhi h0
 go_enter Tryz.func61,Tryz.ntmps61
 go_wp2_with fail
 refine C1.out.mono ?_
 rintro e w' ⟨rfl,rfl⟩
 go_wp2_with fail
 refine C2.out.mono ?_
 rintro e w' ⟨rfl,rfl⟩
 go_wp2
 go_ret2
 exact post_same HG.out rfl
set_option maxHeartbeats 400000 in
theorem and_turned_a {w:World} {base b:Nat} {mb:Option Nat} {gs:List Gm.Gate} (hg:GraphAt w base b mb gs) {lo hi:Nat} (hlo:Gm.has gs lo) (hhi:Gm.has gs hi) (hlt:lo<hi) (h0:0<lo) (h1:lo=Gm.notL hi) :
  Calls Tryz.prog 61 #[.pointer (some ⟨b,0,none⟩),.int .i64 lo,.int .i64 hi] w (GPost w base b mb (gs,0)):=by
 have hl:=hg.len
 have C1:=Lib.hid (has_yes hg hlo)
 have C2:=Lib.hid (has_yes hg hhi)
 have HG:=Lib.hid hg
 have e0:((lo:Int) == 0)=false:=by simp; omega
 obtain ⟨nh,hnh⟩:∃ nh,nh=Gm.notL hi:=⟨_,rfl⟩
 have C3:=Lib.hid (not_any hi w (by unfold Gm.has at hhi; omega))
 rw [← hnh] at C3 h1
 have e1:((lo:Int) == (nh:Int))=true:=by simp [h1]
 clear hg hlo hhi h1 hnh hl
 go_enter Tryz.func61,Tryz.ntmps61
 go_wp2_with fail
 refine C1.out.mono ?_
 rintro e w' ⟨rfl,rfl⟩
 go_wp2_with fail
 refine C2.out.mono ?_
 rintro e w' ⟨rfl,rfl⟩
 go_wp2_with fail
 refine C3.out.mono ?_
 rintro e w' ⟨rfl,rfl⟩
 go_wp2
 go_ret2
 exact post_same HG.out rfl
set_option maxHeartbeats 400000 in
theorem and_one_a {w:World} {base b:Nat} {mb:Option Nat} {gs:List Gm.Gate} (hg:GraphAt w base b mb gs) {lo hi:Nat} (hlo:Gm.has gs lo) (hhi:Gm.has gs hi) (hlt:lo<hi) (h0:lo=1) (h1:lo≠Gm.notL hi) :
  Calls Tryz.prog 61 #[.pointer (some ⟨b,0,none⟩),.int .i64 lo,.int .i64 hi] w (GPost w base b mb (gs,hi)):=by
 have hl:=hg.len
 have C1:=Lib.hid (has_yes hg hlo)
 have C2:=Lib.hid (has_yes hg hhi)
 have HG:=Lib.hid hg
 have e0:((lo:Int) == 0)=false:=by simp; omega
 have e2:((lo:Int) == 1)=true:=by simp [h0]
 obtain ⟨nh,hnh⟩:∃ nh,nh=Gm.notL hi:=⟨_,rfl⟩
 have C3:=Lib.hid (not_any hi w (by unfold Gm.has at hhi; omega))
 rw [← hnh] at C3 h1
 have e1:((lo:Int) == (nh:Int))=false:=by simp; omega
 clear hg hlo hhi h1 hnh hl h0
 go_enter Tryz.func61,Tryz.ntmps61
 go_wp2_with fail
 refine C1.out.mono ?_
 rintro e w' ⟨rfl,rfl⟩
 go_wp2_with fail
 refine C2.out.mono ?_
 rintro e w' ⟨rfl,rfl⟩
 go_wp2_with fail
 refine C3.out.mono ?_
 rintro e w' ⟨rfl,rfl⟩
 go_wp2
 go_ret2
 exact post_same HG.out rfl
set_option maxHeartbeats 400000 in
theorem and_zero_b {w:World} {base b:Nat} {mb:Option Nat} {gs:List Gm.Gate} (hg:GraphAt w base b mb gs) {lo hi:Nat} (hlo:Gm.has gs lo) (hhi:Gm.has gs hi) (hlt:lo<hi) (h0:lo=0) :
  Calls Tryz.prog 61 #[.pointer (some ⟨b,0,none⟩),.int .i64 hi,.int .i64 lo] w (GPost w base b mb (gs,0)):=by
 have hl:=hg.len
 have C1:=Lib.hid (has_yes hg hlo)
 have C2:=Lib.hid (has_yes hg hhi)
 have HG:=Lib.hid hg
 have e0:((lo:Int) == 0)=true:=by simp [h0]
 clear hg hlo hhi h0
 go_enter Tryz.func61,Tryz.ntmps61
 go_wp2_with fail
 refine C2.out.mono ?_
 rintro e w' ⟨rfl,rfl⟩
 go_wp2_with fail
 refine C1.out.mono ?_
 rintro e w' ⟨rfl,rfl⟩
 go_wp2
 go_ret2
 exact post_same HG.out rfl
set_option maxHeartbeats 400000 in
theorem and_turned_b {w:World} {base b:Nat} {mb:Option Nat} {gs:List Gm.Gate} (hg:GraphAt w base b mb gs) {lo hi:Nat} (hlo:Gm.has gs lo) (hhi:Gm.has gs hi) (hlt:lo<hi) (h0:0<lo) (h1:lo=Gm.notL hi) :
  Calls Tryz.prog 61 #[.pointer (some ⟨b,0,none⟩),.int .i64 hi,.int .i64 lo] w (GPost w base b mb (gs,0)):=by
 have hl:=hg.len
 have C1:=Lib.hid (has_yes hg hlo)
 have C2:=Lib.hid (has_yes hg hhi)
 have HG:=Lib.hid hg
 have e0:((lo:Int) == 0)=false:=by simp; omega
 obtain ⟨nh,hnh⟩:∃ nh,nh=Gm.notL hi:=⟨_,rfl⟩
 have C3:=Lib.hid (not_any hi w (by unfold Gm.has at hhi; omega))
 rw [← hnh] at C3 h1
 have e1:((lo:Int) == (nh:Int))=true:=by simp [h1]
 clear hg hlo hhi h1 hnh hl
 go_enter Tryz.func61,Tryz.ntmps61
 go_wp2_with fail
 refine C2.out.mono ?_
 rintro e w' ⟨rfl,rfl⟩
 go_wp2_with fail
 refine C1.out.mono ?_
 rintro e w' ⟨rfl,rfl⟩
 go_wp2_with fail
 refine C3.out.mono ?_
 rintro e w' ⟨rfl,rfl⟩
 go_wp2
 go_ret2
 exact post_same HG.out rfl
set_option maxHeartbeats 400000 in
theorem and_one_b {w:World} {base b:Nat} {mb:Option Nat} {gs:List Gm.Gate} (hg:GraphAt w base b mb gs) {lo hi:Nat} (hlo:Gm.has gs lo) (hhi:Gm.has gs hi) (hlt:lo<hi) (h0:lo=1) (h1:lo≠Gm.notL hi) :
  Calls Tryz.prog 61 #[.pointer (some ⟨b,0,none⟩),.int .i64 hi,.int .i64 lo] w (GPost w base b mb (gs,hi)):=by
 have hl:=hg.len
 have C1:=Lib.hid (has_yes hg hlo)
 have C2:=Lib.hid (has_yes hg hhi)
 have HG:=Lib.hid hg
 have e0:((lo:Int) == 0)=false:=by simp; omega
 have e2:((lo:Int) == 1)=true:=by simp [h0]
 obtain ⟨nh,hnh⟩:∃ nh,nh=Gm.notL hi:=⟨_,rfl⟩
 have C3:=Lib.hid (not_any hi w (by unfold Gm.has at hhi; omega))
 rw [← hnh] at C3 h1
 have e1:((lo:Int) == (nh:Int))=false:=by simp; omega
 clear hg hlo hhi h1 hnh hl h0
 go_enter Tryz.func61,Tryz.ntmps61
 go_wp2_with fail
 refine C2.out.mono ?_
 rintro e w' ⟨rfl,rfl⟩
 go_wp2_with fail
 refine C1.out.mono ?_
 rintro e w' ⟨rfl,rfl⟩
 go_wp2_with fail
 refine C3.out.mono ?_
 rintro e w' ⟨rfl,rfl⟩
 go_wp2
 go_ret2
 exact post_same HG.out rfl
set_option maxHeartbeats 400000 in
theorem and_same0 {w:World} {base b:Nat} {mb:Option Nat} {gs:List Gm.Gate} (hg:GraphAt w base b mb gs) (h:Gm.has gs 0) :
  Calls Tryz.prog 61 #[.pointer (some ⟨b,0,none⟩),.int .i64 ((0:Nat):Int),.int .i64 ((0:Nat):Int)] w (GPost w base b mb (gs,0)):=by
 have C1:=Lib.hid (has_yes hg h)
 have HG:=Lib.hid hg
 clear hg h
 go_enter Tryz.func61,Tryz.ntmps61
 go_wp2_with fail
 refine C1.out.mono ?_
 rintro e w' ⟨rfl,rfl⟩
 go_wp2_with fail
 refine C1.out.mono ?_
 rintro e w' ⟨rfl,rfl⟩
 go_wp2
 go_ret2
 exact post_same HG.out rfl
set_option maxHeartbeats 400000 in
theorem and_same {w:World} {base b:Nat} {mb:Option Nat} {gs:List Gm.Gate} (hg:GraphAt w base b mb gs) {x:Nat} (h:Gm.has gs x) (h0:0<x) :
  Calls Tryz.prog 61 #[.pointer (some ⟨b,0,none⟩),.int .i64 x,.int .i64 x] w (GPost w base b mb (gs,x)):=by
 have hl:=hg.len
 have C1:=Lib.hid (has_yes hg h)
 have HG:=Lib.hid hg
 have e0:((x:Int) == 0)=false:=by simp; omega
 obtain ⟨nh,hnh⟩:∃ nh,nh=Gm.notL x:=⟨_,rfl⟩
 have C3:=Lib.hid (not_any x w (by unfold Gm.has at h; omega))
 have h1:x≠nh:=by rw [hnh]; unfold Gm.notL; split <;> omega
 rw [← hnh] at C3
 have e1:((x:Int) == (nh:Int))=false:=by simp; omega
 by_cases h2:x=1
 ·have e2:((x:Int) == 1)=true:=by simp [h2]
  clear hg h h1 hnh hl h2
  go_enter Tryz.func61,Tryz.ntmps61
  go_wp2_with fail
  refine C1.out.mono ?_
  rintro e w' ⟨rfl,rfl⟩
  go_wp2_with fail
  refine C1.out.mono ?_
  rintro e w' ⟨rfl,rfl⟩
  go_wp2_with fail
  refine C3.out.mono ?_
  rintro e w' ⟨rfl,rfl⟩
  go_wp2
  go_ret2
  exact post_same HG.out rfl
 ·have e2:((x:Int) == 1)=false:=by simp; omega
  clear hg h h1 hnh hl h2
  go_enter Tryz.func61,Tryz.ntmps61
  go_wp2_with fail
  refine C1.out.mono ?_
  rintro e w' ⟨rfl,rfl⟩
  go_wp2_with fail
  refine C1.out.mono ?_
  rintro e w' ⟨rfl,rfl⟩
  go_wp2_with fail
  refine C3.out.mono ?_
  rintro e w' ⟨rfl,rfl⟩
  go_wp2
  go_ret2
  exact post_same HG.out rfl
end Go.Proofs.YthkhfbofhdfdoaaGreatDoor
namespace Go.Proofs.YthkhfbofhdfdoaaGreatDoor
open Go.RowKit
theorem zero_of_find {w:World} {base b:Nat} {gs:List Gm.Gate} (hg:GraphAt w base b none gs) {lo hi k:Nat} (h:Gm.find lo hi gs=some k):False:=by
 have:=hg.hm lo hi; rw [h] at this; cases this
set_option maxHeartbeats 400000 in
theorem and_found_a {w:World} {base b m:Nat} {gs:List Gm.Gate} (hg:GraphAt w base b (some m) gs) {lo hi k:Nat} (hlo:Gm.has gs lo) (hhi:Gm.has gs hi) (hlt:lo<hi) (h0:1<lo) (h1:lo≠Gm.notL hi) (hf:Gm.find lo hi gs=some k) :
  Calls Tryz.prog 61 #[.pointer (some ⟨b,0,none⟩),.int .i64 lo,.int .i64 hi] w (GPost w base b (some m) (gs,2*k+2)):=by
 have hl:=hg.len
 have hbl:(lo:Int)≤1000000∧(hi:Int)≤1000000:=by unfold Gm.has at hlo hhi; omega
 obtain ⟨nh,hnh⟩:∃ nh,nh=Gm.notL hi:=⟨_,rfl⟩
 have hkey:=keyOf_two lo hi (wf_small (by omega)) (wf_small (by omega))
 have hkl:=Gm.find_lt hf
 obtain ⟨sv,hblk,hrow⟩:=hg.ex
 have c2:w.cell? ⟨b,2,none⟩=some (.map (some m)):=hblk.cell 2
 obtain ⟨_,D,hD,hh⟩:=hg.hm
 obtain ⟨hD1,hD2⟩:=(hh lo hi (by omega) (by omega)).2 k hf
 have HD:=Lib.hid hD
 have H2:=Lib.hid hD2
 have hW:wrap64 (2*((k:Int)+1))=((2*k+2:Nat):Int):=(wrap64_id (by omega) (by omega)).trans (by omega)
 have HW:=Lib.hid hW
 have HG:=Lib.hid hg
 have HK:=Lib.hid hkey
 have C1:=Lib.hid (has_yes hg hlo)
 have C2:=Lib.hid (has_yes hg hhi)
 have C3:=Lib.hid (not_any hi w (by omega))
 rw [← hnh] at C3 h1
 have e0:((lo:Int) == 0)=false:=by simp; omega
 have e1:((lo:Int) == (nh:Int))=false:=by simp; omega
 have e2:((lo:Int) == 1)=false:=by simp; omega
 have e3:((lo:Int) == (hi:Int))=false:=by simp; omega
 clear hg hlo hhi h1 hnh hl h0 hkey hbl hblk hrow hD hh hD2 hf hkl hW
 go_enter Tryz.func61,Tryz.ntmps61
 go_wp2_with fail
 refine C1.out.mono ?_
 rintro e w' ⟨rfl,rfl⟩
 go_wp2_with fail
 refine C2.out.mono ?_
 rintro e w' ⟨rfl,rfl⟩
 go_wp2_with fail
 refine C3.out.mono ?_
 rintro e w' ⟨rfl,rfl⟩
 go_wp2_with (at_lookup; refine wpList_lookup_own_ok_int _ rfl _ _ 25 rfl 133 3 .i64 lawKey Tryz.underlying25 Tryz.underlying3 (zeroInt _) m _ D rfl HD.out _ _ rfl HK.out ?_; intro c hat hwc)
 go_ret2
 have hc:c=(k:Int)+1:=by
  have h:=H2.out.symm.trans hat
  simp only [DataW.lit.injEq,Lit.int.injEq,true_and] at h
  exact h.symm
 refine post_same HG.out ?_
 rw [hc]; exact HW.out
set_option maxHeartbeats 400000 in
theorem and_found_b {w:World} {base b m:Nat} {gs:List Gm.Gate} (hg:GraphAt w base b (some m) gs) {lo hi k:Nat} (hlo:Gm.has gs lo) (hhi:Gm.has gs hi) (hlt:lo<hi) (h0:1<lo) (h1:lo≠Gm.notL hi) (hf:Gm.find lo hi gs=some k) :
  Calls Tryz.prog 61 #[.pointer (some ⟨b,0,none⟩),.int .i64 hi,.int .i64 lo] w (GPost w base b (some m) (gs,2*k+2)):=by
 have hl:=hg.len
 have hbl:(lo:Int)≤1000000∧(hi:Int)≤1000000:=by unfold Gm.has at hlo hhi; omega
 obtain ⟨nh,hnh⟩:∃ nh,nh=Gm.notL hi:=⟨_,rfl⟩
 have hkey:=keyOf_two lo hi (wf_small (by omega)) (wf_small (by omega))
 have hkl:=Gm.find_lt hf
 obtain ⟨sv,hblk,hrow⟩:=hg.ex
 have c2:w.cell? ⟨b,2,none⟩=some (.map (some m)):=hblk.cell 2
 obtain ⟨_,D,hD,hh⟩:=hg.hm
 obtain ⟨hD1,hD2⟩:=(hh lo hi (by omega) (by omega)).2 k hf
 have HD:=Lib.hid hD
 have H2:=Lib.hid hD2
 have hW:wrap64 (2*((k:Int)+1))=((2*k+2:Nat):Int):=(wrap64_id (by omega) (by omega)).trans (by omega)
 have HW:=Lib.hid hW
 have HG:=Lib.hid hg
 have HK:=Lib.hid hkey
 have C1:=Lib.hid (has_yes hg hlo)
 have C2:=Lib.hid (has_yes hg hhi)
 have C3:=Lib.hid (not_any hi w (by omega))
 rw [← hnh] at C3 h1
 have e0:((lo:Int) == 0)=false:=by simp; omega
 have e1:((lo:Int) == (nh:Int))=false:=by simp; omega
 have e2:((lo:Int) == 1)=false:=by simp; omega
 have e3:((lo:Int) == (hi:Int))=false:=by simp; omega
 clear hg hlo hhi h1 hnh hl h0 hkey hbl hblk hrow hD hh hD2 hf hkl hW
 go_enter Tryz.func61,Tryz.ntmps61
 go_wp2_with fail
 refine C2.out.mono ?_
 rintro e w' ⟨rfl,rfl⟩
 go_wp2_with fail
 refine C1.out.mono ?_
 rintro e w' ⟨rfl,rfl⟩
 go_wp2_with fail
 refine C3.out.mono ?_
 rintro e w' ⟨rfl,rfl⟩
 go_wp2_with (at_lookup; refine wpList_lookup_own_ok_int _ rfl _ _ 25 rfl 133 3 .i64 lawKey Tryz.underlying25 Tryz.underlying3 (zeroInt _) m _ D rfl HD.out _ _ rfl HK.out ?_; intro c hat hwc)
 go_ret2
 have hc:c=(k:Int)+1:=by
  have h:=H2.out.symm.trans hat
  simp only [DataW.lit.injEq,Lit.int.injEq,true_and] at h
  exact h.symm
 refine post_same HG.out ?_
 rw [hc]; exact HW.out
def Tells (D:DataW Unit) (gs:List Gm.Gate):Prop:=∀ a b:Nat,a≤1000000→b≤1000000 →
 (Gm.find a b gs=none→Maps.has D (kl a b)=false)∧(∀ k,Gm.find a b gs=some k→Maps.has D (kl a b)=true∧D.atKey (kl a b) (.lit (.int .i64 0)) = .lit (.int .i64 ((k:Int)+1)))
theorem Tells.none {gs:List Gm.Gate} (h:∀ a b,Gm.find a b gs=none):Tells (.map []) gs:=fun a b _ _=>⟨fun _=>rfl,fun k hk=>by rw [h] at hk; cases hk⟩
theorem isKey_kl {a b:Nat} (ha:a≤1000000) (hb:b≤1000000):WideAt.IsKeyLit (kl a b):=lawKey.key (keyOf_two a b (wf_small ha) (wf_small hb))
theorem Tells.put {D:DataW Unit} {gs:List Gm.Gate} (h:Tells D gs) (hD:Maps.IsMap D) {lo hi:Nat} (hlo:lo≤1000000) (hhi:hi≤1000000) (hf:Gm.find lo hi gs = .none) :
  Tells (D.put (kl lo hi) (.lit (.int .i64 ((gs.length:Int)+1)))) (gs++[⟨lo,hi,false⟩]):=by
 intro a b ha hb
 have hk:=isKey_kl hlo hhi
 by_cases hab:a=lo∧b=hi
 ·obtain ⟨rfl,rfl⟩:=hab
  have hfn:Gm.find a b (gs++[⟨a,b,false⟩])=some gs.length:=by rw [Gm.find_append,hf]; simp [Gm.find]
  rw [hfn]
  refine ⟨(fun h=>by cases h),fun k hk'=>?_⟩
  simp only [Option.some.injEq] at hk'
  subst hk'
  exact ⟨Maps.has_put_same hD hk _,Maps.atKey_put_same hD hk _ _⟩
 ·have hne:kl a b≠kl lo hi:=fun e=>hab (by
   have:=kl_inj (wf_small ha) (wf_small hb) (wf_small hlo) (wf_small hhi) e
   omega)
  have hfn:Gm.find a b (gs++[⟨lo,hi,false⟩])=Gm.find a b gs:=by
   rw [Gm.find_append]
   cases Gm.find a b gs with
   | some k=>rfl
   | none=>
    have:¬ (lo=a∧hi=b):=fun e=>hab ⟨e.1.symm,e.2.symm⟩
    simp [Gm.find,this]
  rw [hfn,Maps.has_put_other hne,Maps.atKey_put_other hne]
  exact h a b ha hb
theorem new_end {w w3:World} {base b m:Nat} {mb:Option Nat} {gs:List Gm.Gate} {sv1:Value} {D:DataW Unit} {n:Nat} {lo hi:Nat} (hg:GraphAt w base b mb gs) (hn:gs.length<99999)
  (hlo:Gm.has gs lo) (hhi:Gm.has gs hi) (hlt:lo<hi) (h0:1<lo) (h1:lo≠Gm.notL hi) (hf:Gm.find lo hi gs=none)
  (hB:Blk w3 b 27 #[sv1,.int .i64 (Gm.ins gs:Int),.map (some m)]) (hR:w3.ownsRow base 54 3 sv1 (gs.length+1) (gateCells 0 gs++[.int .i64 lo,.int .i64 hi,.int .i64 0]))
  (hM:w3.ownsMap Tryz.prog 133 (plainElem Tryz.prog 3) m n (D.put (kl lo hi) (.lit (.int .i64 ((gs.length:Int)+1))))) (hnn:n≤gs.length+1) (hT:Tells D gs) (hD:Maps.IsMap D) (hbm:base≤m)
  (hC:Chg (GS base b mb) w w3) (hmb:some m=mb∨∃ m',some m=some m'∧w.heap.size≤m') :
  GPost w base b mb (gs++[⟨lo,hi,false⟩],2*gs.length+2) (.returned (.tuple #[.int .i64 (2*(gs.length+1:Nat)),.nilIface])) w3:=by
 have hl:=hg.len
 have he:Gm.andG gs lo hi=(gs++[⟨lo,hi,false⟩],2*gs.length+2):=by
  have e1:min lo hi=lo:=Nat.min_eq_left (by omega)
  have e2:max lo hi=hi:=Nat.max_eq_right (by omega)
  have h2:¬ (hi=lo+1∧lo%2=0):=fun e=>h1 ((notL_eq (Nat.le_of_lt hlt)).2 e)
  rw [andG_none (by rw [e1,e2]; omega) (by rw [e1,e2]; omega) (by rw [e1,e2]; exact hf),e1,e2]
 have hwf:=Gm.andG_wf hg.wf hlo hhi
 have hins:=Gm.ins_and gs lo hi
 rw [he] at hwf hins
 unfold Gm.has at hlo hhi
 refine ⟨by simp; omega,some m,⟨hwf,by simp; omega,hg.hb,⟨sv1,?_,?_⟩,hbm,_,hM.mono (by simpa using hnn),?_⟩,hC,hmb⟩
 ·rw [hins]; exact hB
 ·simpa [gateCells_append,gateCells] using hR
 ·exact hT.put hD (by omega) (by omega) hf
theorem run_eql_map (w:World) (m:Nat):(binOp .eql 25 (.map (some m)) (.map none)).run Tryz.prog w = .ok (.bool false) w:=by
 simpa using run_eql_map_nil (P:=Tryz.prog) w _ _ _ (some m) Tryz.underlying25
theorem run_eql_map_none (w:World):(binOp .eql 25 (.map none) (.map none)).run Tryz.prog w = .ok (.bool true) w:=by
 simpa using run_eql_map_nil (P:=Tryz.prog) w _ _ _ none Tryz.underlying25
theorem none_row {w1 w2:World} {base b n:Nat} {sv1 y z u:Value} {v:Obj} {xs:List Value} (h1:Blk w1 b 27 #[sv1,y,z]) (h2:w1.ownsRow base 54 3 sv1 n xs)
  (hg:((w1.setCell ⟨b,2,none⟩ u).alloc v).grownBy w2 (some w1.heap.size)):w2.ownsRow base 54 3 sv1 n xs:=by
 have hne:=own_blk_ne h2 h1 (by decide)
 have h3:(w1.setCell ⟨b,2,none⟩ u).ownsRow base 54 3 sv1 n xs:=
  h2.kept (row:=some b) ⟨rfl,rfl,rfl,by simp [World.setCell],fun k hk hn=>Below.heap_setCell _ _ _ _ (fun e=>hn (by rw [e]))⟩ (.inr hne)
 refine (h3.alloc v).kept hg (.inr fun e=>?_)
 have:=(h2.lt _ e).2
 omega
set_option maxHeartbeats 400000 in
theorem and_some_a {w:World} {base b m:Nat} {gs:List Gm.Gate} (hg:GraphAt w base b (some m) gs) (hn:gs.length<99999) {lo hi:Nat} (hlo:Gm.has gs lo) (hhi:Gm.has gs hi) (hlt:lo<hi) (h0:1<lo) (h1:lo≠Gm.notL hi) (hf:Gm.find lo hi gs=none) :
  Calls Tryz.prog 61 #[.pointer (some ⟨b,0,none⟩),.int .i64 lo,.int .i64 hi] w (GPost w base b (some m) (gs++[⟨lo,hi,false⟩],2*gs.length+2)):=by
 have hl:=hg.len
 have hbl:(lo:Int)≤1000000∧(hi:Int)≤1000000:=by unfold Gm.has at hlo hhi; omega
 obtain ⟨nh,hnh⟩:∃ nh,nh=Gm.notL hi:=⟨_,rfl⟩
 have hkey:=keyOf_two lo hi (wf_small (by omega)) (wf_small (by omega))
 obtain ⟨sv,hblk,hrow⟩:=hg.ex
 have c2:w.cell? ⟨b,2,none⟩=some (.map (some m)):=hblk.cell 2
 obtain ⟨hbm,D,hD,hh⟩:=hg.hm
 have hD1:=(hh lo hi (by omega) (by omega)).1 hf
 have HH:=Lib.hid (show Tells D gs from hh)
 have HD:=Lib.hid hD
 have HB:=Lib.hid hblk
 have HR:=Lib.hid hrow
 have HN:=Lib.hid hn
 have HE:=Lib.hid (fun w3 sv1 n (a1:Blk w3 b 27 #[sv1,.int .i64 (Gm.ins gs:Int),.map (some m)]) a2 a3 a4 a5=>new_end (w3:=w3) (sv1:=sv1) (n:=n) hg hn hlo hhi hlt h0 h1 hf a1 a2 (D:=D) a3 a4 hh hD.isMap hbm a5 (.inl rfl))
 have em:=run_eql_map
 have HX:=Lib.hid (wrap64_id (x:=(gs.length:Int)+1) (by omega) (by omega))
 have HG:=Lib.hid hg
 have HK:=Lib.hid hkey
 have C1:=Lib.hid (has_yes hg hlo)
 have C2:=Lib.hid (has_yes hg hhi)
 have C3:=Lib.hid (not_any hi w (by omega))
 rw [← hnh] at C3 h1
 have e0:((lo:Int) == 0)=false:=by simp; omega
 have e1:((lo:Int) == (nh:Int))=false:=by simp; omega
 have e2:((lo:Int) == 1)=false:=by simp; omega
 have e3:((lo:Int) == (hi:Int))=false:=by simp; omega
 clear hg hlo hhi h1 hnh hl h0 hkey hbl hblk hrow hD hh hf hn
 go_enter Tryz.func61,Tryz.ntmps61
 go_wp2_with fail
 refine C1.out.mono ?_
 rintro e w' ⟨rfl,rfl⟩
 go_wp2_with fail
 refine C2.out.mono ?_
 rintro e w' ⟨rfl,rfl⟩
 go_wp2_with fail
 refine C3.out.mono ?_
 rintro e w' ⟨rfl,rfl⟩
 go_wp2_with (first | (at_lookup; refine wpList_lookup_own_ok_int _ rfl _ _ 25 rfl 133 3 .i64 lawKey Tryz.underlying25 Tryz.underlying3 (zeroInt _) m _ D rfl HD.out _ _ rfl HK.out ?_; intro c hat hwc) | fail)
 refine (add_room lo hi 0 HG.out.hb HB.out HR.out HN.out).mono ?_
 rintro e w1 ⟨rfl,sv1,h1,h2,h3⟩
 have k2:w1.cell? ⟨b,2,none⟩=some (.map (some m)):=h1.cell 2
 have H1:=Lib.hid h1
 have H2:=Lib.hid h2
 have H3:=Lib.hid h3
 have hD':=ownsMap_chg HD.out h3 (fun es c hs=>by
  rcases hs with hs | hs | hs
  ·exact map_ne_blk HD.out HB.out hs
  ·cases hs
  ·cases hs.2)
 have HD1:=Lib.hid hD'
 clear h1 h2 h3 hD'
 have Hm:Hid (gs.length<maxLen):=Nat.lt_trans HN.out (by unfold maxLen; omega)
 go_wp2_with (at_mapUpdate; refine wpList_mapUpdate_own _ rfl _ _ _ 25 rfl 133 3 lawKey Tryz.underlying25 _ m _ D rfl HD1.out Hm.out _ _ _ rfl rfl HK.out _ [] (plainElem_int Tryz.underlying3 (wrap64_wf _)) ?_; intro w2 hown2 hgrow2)
 go_ret2
 rw [HX.out] at hown2
 have hne:=map_ne_blk HD1.out H1.out
 refine HE.out w2 sv1 _ (H1.out.grown hgrow2 (fun e=>hne (Option.some.inj e).symm)) (H2.out.kept hgrow2 (.inr (map_ne_own HD1.out H2.out))) hown2 (Nat.le_refl _) ?_
 refine Chg.grown (H3.out.mono fun k o _ hs=>?_) hgrow2 (fun k o hk _=>.inr (.inl hk.symm))
 rcases hs with hs | hs | hs
 ·exact .inl hs
 ·cases hs
 ·exact .inr (.inr hs)
set_option maxHeartbeats 400000 in
theorem and_some_b {w:World} {base b m:Nat} {gs:List Gm.Gate} (hg:GraphAt w base b (some m) gs) (hn:gs.length<99999) {lo hi:Nat} (hlo:Gm.has gs lo) (hhi:Gm.has gs hi) (hlt:lo<hi) (h0:1<lo) (h1:lo≠Gm.notL hi) (hf:Gm.find lo hi gs=none) :
  Calls Tryz.prog 61 #[.pointer (some ⟨b,0,none⟩),.int .i64 hi,.int .i64 lo] w (GPost w base b (some m) (gs++[⟨lo,hi,false⟩],2*gs.length+2)):=by
 have hl:=hg.len
 have hbl:(lo:Int)≤1000000∧(hi:Int)≤1000000:=by unfold Gm.has at hlo hhi; omega
 obtain ⟨nh,hnh⟩:∃ nh,nh=Gm.notL hi:=⟨_,rfl⟩
 have hkey:=keyOf_two lo hi (wf_small (by omega)) (wf_small (by omega))
 obtain ⟨sv,hblk,hrow⟩:=hg.ex
 have c2:w.cell? ⟨b,2,none⟩=some (.map (some m)):=hblk.cell 2
 obtain ⟨hbm,D,hD,hh⟩:=hg.hm
 have hD1:=(hh lo hi (by omega) (by omega)).1 hf
 have HH:=Lib.hid (show Tells D gs from hh)
 have HD:=Lib.hid hD
 have HB:=Lib.hid hblk
 have HR:=Lib.hid hrow
 have HN:=Lib.hid hn
 have HE:=Lib.hid (fun w3 sv1 n (a1:Blk w3 b 27 #[sv1,.int .i64 (Gm.ins gs:Int),.map (some m)]) a2 a3 a4 a5=>new_end (w3:=w3) (sv1:=sv1) (n:=n) hg hn hlo hhi hlt h0 h1 hf a1 a2 (D:=D) a3 a4 hh hD.isMap hbm a5 (.inl rfl))
 have em:=run_eql_map
 have HX:=Lib.hid (wrap64_id (x:=(gs.length:Int)+1) (by omega) (by omega))
 have HG:=Lib.hid hg
 have HK:=Lib.hid hkey
 have C1:=Lib.hid (has_yes hg hlo)
 have C2:=Lib.hid (has_yes hg hhi)
 have C3:=Lib.hid (not_any hi w (by omega))
 rw [← hnh] at C3 h1
 have e0:((lo:Int) == 0)=false:=by simp; omega
 have e1:((lo:Int) == (nh:Int))=false:=by simp; omega
 have e2:((lo:Int) == 1)=false:=by simp; omega
 have e3:((lo:Int) == (hi:Int))=false:=by simp; omega
 clear hg hlo hhi h1 hnh hl h0 hkey hbl hblk hrow hD hh hf hn
 go_enter Tryz.func61,Tryz.ntmps61
 go_wp2_with fail
 refine C2.out.mono ?_
 rintro e w' ⟨rfl,rfl⟩
 go_wp2_with fail
 refine C1.out.mono ?_
 rintro e w' ⟨rfl,rfl⟩
 go_wp2_with fail
 refine C3.out.mono ?_
 rintro e w' ⟨rfl,rfl⟩
 go_wp2_with (first | (at_lookup; refine wpList_lookup_own_ok_int _ rfl _ _ 25 rfl 133 3 .i64 lawKey Tryz.underlying25 Tryz.underlying3 (zeroInt _) m _ D rfl HD.out _ _ rfl HK.out ?_; intro c hat hwc) | fail)
 refine (add_room lo hi 0 HG.out.hb HB.out HR.out HN.out).mono ?_
 rintro e w1 ⟨rfl,sv1,h1,h2,h3⟩
 have k2:w1.cell? ⟨b,2,none⟩=some (.map (some m)):=h1.cell 2
 have H1:=Lib.hid h1
 have H2:=Lib.hid h2
 have H3:=Lib.hid h3
 have hD':=ownsMap_chg HD.out h3 (fun es c hs=>by
  rcases hs with hs | hs | hs
  ·exact map_ne_blk HD.out HB.out hs
  ·cases hs
  ·cases hs.2)
 have HD1:=Lib.hid hD'
 clear h1 h2 h3 hD'
 have Hm:Hid (gs.length<maxLen):=Nat.lt_trans HN.out (by unfold maxLen; omega)
 go_wp2_with (at_mapUpdate; refine wpList_mapUpdate_own _ rfl _ _ _ 25 rfl 133 3 lawKey Tryz.underlying25 _ m _ D rfl HD1.out Hm.out _ _ _ rfl rfl HK.out _ [] (plainElem_int Tryz.underlying3 (wrap64_wf _)) ?_; intro w2 hown2 hgrow2)
 go_ret2
 rw [HX.out] at hown2
 have hne:=map_ne_blk HD1.out H1.out
 refine HE.out w2 sv1 _ (H1.out.grown hgrow2 (fun e=>hne (Option.some.inj e).symm)) (H2.out.kept hgrow2 (.inr (map_ne_own HD1.out H2.out))) hown2 (Nat.le_refl _) ?_
 refine Chg.grown (H3.out.mono fun k o _ hs=>?_) hgrow2 (fun k o hk _=>.inr (.inl hk.symm))
 rcases hs with hs | hs | hs
 ·exact .inl hs
 ·cases hs
 ·exact .inr (.inr hs)
set_option maxHeartbeats 400000 in
theorem and_none_a {w:World} {base b:Nat} {gs:List Gm.Gate} (hg:GraphAt w base b none gs) (hbase:base≤w.heap.size) (hn:gs.length<99999) {lo hi:Nat} (hlo:Gm.has gs lo) (hhi:Gm.has gs hi) (hlt:lo<hi) (h0:1<lo) (h1:lo≠Gm.notL hi) :
  Calls Tryz.prog 61 #[.pointer (some ⟨b,0,none⟩),.int .i64 lo,.int .i64 hi] w (GPost w base b none (gs++[⟨lo,hi,false⟩],2*gs.length+2)):=by
 have hl:=hg.len
 have hbl:(lo:Int)≤1000000∧(hi:Int)≤1000000:=by unfold Gm.has at hlo hhi; omega
 obtain ⟨nh,hnh⟩:∃ nh,nh=Gm.notL hi:=⟨_,rfl⟩
 have hkey:=keyOf_two lo hi (wf_small (by omega)) (wf_small (by omega))
 obtain ⟨sv,hblk,hrow⟩:=hg.ex
 have c2:w.cell? ⟨b,2,none⟩=some (.map none):=hblk.cell 2
 have hf:=hg.hm lo hi
 have HT:=Lib.hid (Tells.none hg.hm)
 have HB:=Lib.hid hblk
 have HR:=Lib.hid hrow
 have HN:=Lib.hid hn
 have HBS:=Lib.hid hbase
 have HE:=Lib.hid (fun w3 m sv1 n (a1:Blk w3 b 27 #[sv1,.int .i64 (Gm.ins gs:Int),.map (some m)]) a2 a3 a4 a5 a6 a7=>new_end (w3:=w3) (m:=m) (sv1:=sv1) (n:=n) hg hn hlo hhi hlt h0 h1 hf a1 a2 (D:=.map []) a3 a4 (Tells.none hg.hm) Maps.isMap_empty a7 a5 a6)
 have em:=run_eql_map_none
 have hmm:=@run_makeMap Tryz.prog
 have look:=fun W:World=>Maps.look_nil (w:=W) true lawKey Tryz.underlying25 (zeroInt W) hkey
 simp only [if_true] at look
 have HX:=Lib.hid (wrap64_id (x:=(gs.length:Int)+1) (by omega) (by omega))
 have HG:=Lib.hid hg
 have HK:=Lib.hid hkey
 have C1:=Lib.hid (has_yes hg hlo)
 have C2:=Lib.hid (has_yes hg hhi)
 have C3:=Lib.hid (not_any hi w (by omega))
 rw [← hnh] at C3 h1
 have e0:((lo:Int) == 0)=false:=by simp; omega
 have e1:((lo:Int) == (nh:Int))=false:=by simp; omega
 have e2:((lo:Int) == 1)=false:=by simp; omega
 have e3:((lo:Int) == (hi:Int))=false:=by simp; omega
 clear hg hlo hhi h1 hnh hl h0 hkey hbl hblk hrow hf hn hbase
 go_enter Tryz.func61,Tryz.ntmps61
 go_wp2_with fail
 refine C1.out.mono ?_
 rintro e w' ⟨rfl,rfl⟩
 go_wp2_with fail
 refine C2.out.mono ?_
 rintro e w' ⟨rfl,rfl⟩
 go_wp2_with fail
 refine C3.out.mono ?_
 rintro e w' ⟨rfl,rfl⟩
 go_wp2_with fail
 refine (add_room lo hi 0 HG.out.hb HB.out HR.out HN.out).mono ?_
 rintro e w1 ⟨rfl,sv1,h1,h2,h3⟩
 have k2:w1.cell? ⟨b,2,none⟩=some (.map none):=h1.cell 2
 have k3:w1.frozen? ⟨b,2,none⟩=false:=h1.frozen 2
 have hbl:=h1.lt
 have H1:=Lib.hid h1
 have H2:=Lib.hid h2
 have H3:=Lib.hid h3
 clear h1 h2 h3
 have HD1:=Lib.hid (show ((w1.setCell ⟨b,2,none⟩ (.map (some w1.heap.size))).alloc (.map #[] 0)).ownsMap Tryz.prog 133 (plainElem (H:=Unit) Tryz.prog 3) w1.heap.size 0 (.map []) by
  have h:=World.ownsMap_made (w1.setCell ⟨b,2,none⟩ (.map (some w1.heap.size))) Tryz.prog 133 (plainElem (H:=Unit) Tryz.prog 3)
  rwa [show (w1.setCell ⟨b,2,none⟩ (.map (some w1.heap.size))).heap.size=w1.heap.size from by simp [World.setCell]] at h)
 have Hm:Hid (0<maxLen):=by unfold maxLen; exact Nat.zero_lt_succ _
 go_wp2_with (at_mapUpdate; refine wpList_mapUpdate_own _ rfl _ _ _ 25 rfl 133 3 lawKey Tryz.underlying25 _ w1.heap.size _ (.map []) rfl HD1.out Hm.out _ _ _ rfl rfl HK.out _ [] (plainElem_int Tryz.underlying3 (wrap64_wf _)) ?_; intro w2 hown2 hgrow2)
 go_ret2
 rw [HX.out] at hown2
 have hsz:=H3.out.size
 have hbs:=HBS.out
 refine HE.out w2 w1.heap.size sv1 _ (((H1.out.set_ 2 (.map (some w1.heap.size))).alloc (.map #[] 0)).grown hgrow2 (fun e=>Nat.ne_of_lt hbl (Option.some.inj e))) (none_row H1.out H2.out hgrow2) hown2 (Nat.le_add_left _ _) ?_ (.inr ⟨_,rfl,hsz⟩) (Nat.le_trans hbs hsz)
 refine Chg.grown ((H3.out.setCell (.inr fun o=>.inl rfl) _).alloc (.map #[] 0)) hgrow2 (fun k o hk ho=>?_)
 have:=lt_of_heap ho
 have:=Option.some.inj hk
 omega
set_option maxHeartbeats 400000 in
theorem and_none_b {w:World} {base b:Nat} {gs:List Gm.Gate} (hg:GraphAt w base b none gs) (hbase:base≤w.heap.size) (hn:gs.length<99999) {lo hi:Nat} (hlo:Gm.has gs lo) (hhi:Gm.has gs hi) (hlt:lo<hi) (h0:1<lo) (h1:lo≠Gm.notL hi) :
  Calls Tryz.prog 61 #[.pointer (some ⟨b,0,none⟩),.int .i64 hi,.int .i64 lo] w (GPost w base b none (gs++[⟨lo,hi,false⟩],2*gs.length+2)):=by
 have hl:=hg.len
 have hbl:(lo:Int)≤1000000∧(hi:Int)≤1000000:=by unfold Gm.has at hlo hhi; omega
 obtain ⟨nh,hnh⟩:∃ nh,nh=Gm.notL hi:=⟨_,rfl⟩
 have hkey:=keyOf_two lo hi (wf_small (by omega)) (wf_small (by omega))
 obtain ⟨sv,hblk,hrow⟩:=hg.ex
 have c2:w.cell? ⟨b,2,none⟩=some (.map none):=hblk.cell 2
 have hf:=hg.hm lo hi
 have HT:=Lib.hid (Tells.none hg.hm)
 have HB:=Lib.hid hblk
 have HR:=Lib.hid hrow
 have HN:=Lib.hid hn
 have HBS:=Lib.hid hbase
 have HE:=Lib.hid (fun w3 m sv1 n (a1:Blk w3 b 27 #[sv1,.int .i64 (Gm.ins gs:Int),.map (some m)]) a2 a3 a4 a5 a6 a7=>new_end (w3:=w3) (m:=m) (sv1:=sv1) (n:=n) hg hn hlo hhi hlt h0 h1 hf a1 a2 (D:=.map []) a3 a4 (Tells.none hg.hm) Maps.isMap_empty a7 a5 a6)
 have em:=run_eql_map_none
 have hmm:=@run_makeMap Tryz.prog
 have look:=fun W:World=>Maps.look_nil (w:=W) true lawKey Tryz.underlying25 (zeroInt W) hkey
 simp only [if_true] at look
 have HX:=Lib.hid (wrap64_id (x:=(gs.length:Int)+1) (by omega) (by omega))
 have HG:=Lib.hid hg
 have HK:=Lib.hid hkey
 have C1:=Lib.hid (has_yes hg hlo)
 have C2:=Lib.hid (has_yes hg hhi)
 have C3:=Lib.hid (not_any hi w (by omega))
 rw [← hnh] at C3 h1
 have e0:((lo:Int) == 0)=false:=by simp; omega
 have e1:((lo:Int) == (nh:Int))=false:=by simp; omega
 have e2:((lo:Int) == 1)=false:=by simp; omega
 have e3:((lo:Int) == (hi:Int))=false:=by simp; omega
 clear hg hlo hhi h1 hnh hl h0 hkey hbl hblk hrow hf hn hbase
 go_enter Tryz.func61,Tryz.ntmps61
 go_wp2_with fail
 refine C2.out.mono ?_
 rintro e w' ⟨rfl,rfl⟩
 go_wp2_with fail
 refine C1.out.mono ?_
 rintro e w' ⟨rfl,rfl⟩
 go_wp2_with fail
 refine C3.out.mono ?_
 rintro e w' ⟨rfl,rfl⟩
 go_wp2_with fail
 refine (add_room lo hi 0 HG.out.hb HB.out HR.out HN.out).mono ?_
 rintro e w1 ⟨rfl,sv1,h1,h2,h3⟩
 have k2:w1.cell? ⟨b,2,none⟩=some (.map none):=h1.cell 2
 have k3:w1.frozen? ⟨b,2,none⟩=false:=h1.frozen 2
 have hbl:=h1.lt
 have H1:=Lib.hid h1
 have H2:=Lib.hid h2
 have H3:=Lib.hid h3
 clear h1 h2 h3
 have HD1:=Lib.hid (show ((w1.setCell ⟨b,2,none⟩ (.map (some w1.heap.size))).alloc (.map #[] 0)).ownsMap Tryz.prog 133 (plainElem (H:=Unit) Tryz.prog 3) w1.heap.size 0 (.map []) by
  have h:=World.ownsMap_made (w1.setCell ⟨b,2,none⟩ (.map (some w1.heap.size))) Tryz.prog 133 (plainElem (H:=Unit) Tryz.prog 3)
  rwa [show (w1.setCell ⟨b,2,none⟩ (.map (some w1.heap.size))).heap.size=w1.heap.size from by simp [World.setCell]] at h)
 have Hm:Hid (0<maxLen):=by unfold maxLen; exact Nat.zero_lt_succ _
 go_wp2_with (at_mapUpdate; refine wpList_mapUpdate_own _ rfl _ _ _ 25 rfl 133 3 lawKey Tryz.underlying25 _ w1.heap.size _ (.map []) rfl HD1.out Hm.out _ _ _ rfl rfl HK.out _ [] (plainElem_int Tryz.underlying3 (wrap64_wf _)) ?_; intro w2 hown2 hgrow2)
 go_ret2
 rw [HX.out] at hown2
 have hsz:=H3.out.size
 have hbs:=HBS.out
 refine HE.out w2 w1.heap.size sv1 _ (((H1.out.set_ 2 (.map (some w1.heap.size))).alloc (.map #[] 0)).grown hgrow2 (fun e=>Nat.ne_of_lt hbl (Option.some.inj e))) (none_row H1.out H2.out hgrow2) hown2 (Nat.le_add_left _ _) ?_ (.inr ⟨_,rfl,hsz⟩) (Nat.le_trans hbs hsz)
 refine Chg.grown ((H3.out.setCell (.inr fun o=>.inl rfl) _).alloc (.map #[] 0)) hgrow2 (fun k o hk ho=>?_)
 have:=lt_of_heap ho
 have:=Option.some.inj hk
 omega
end Go.Proofs.YthkhfbofhdfdoaaGreatDoor
namespace Go.Proofs.YthkhfbofhdfdoaaGreatDoor
open Go.RowKit
theorem GraphAt.low {w:World} {base b:Nat} {mb:Option Nat} {gs:List Gm.Gate} (hg:GraphAt w base b mb gs):base≤w.heap.size:=by
 obtain ⟨sv,h,_⟩:=hg.ex
 have:=h.lt
 have:=hg.hb
 omega
theorem and_any {w:World} {base b:Nat} {mb:Option Nat} {gs:List Gm.Gate} (hg:GraphAt w base b mb gs) (hn:gs.length<99999) {x y:Nat} (hx:Gm.has gs x) (hy:Gm.has gs y) :
  Calls Tryz.prog 61 #[.pointer (some ⟨b,0,none⟩),.int .i64 x,.int .i64 y] w (GPost w base b mb (Gm.andG gs x y)):=by
 have key:∀ lo hi:Nat,Gm.has gs lo→Gm.has gs hi→lo<hi→((x=lo∧y=hi)∨(x=hi∧y=lo)) →
   Calls Tryz.prog 61 #[.pointer (some ⟨b,0,none⟩),.int .i64 x,.int .i64 y] w (GPost w base b mb (Gm.andG gs x y)):=by
  intro lo hi hlo hhi hlt ho
  have hmin:min x y=lo:=by omega
  have hmax:max x y=hi:=by omega
  have hnot:=notL_eq (Nat.le_of_lt hlt)
  by_cases h0:lo=0
  ·rw [andG_zero (by rw [hmin]; exact .inl h0)]
   rcases ho with ⟨rfl,rfl⟩ | ⟨rfl,rfl⟩
   ·exact and_zero_a hg hlo hhi hlt h0
   ·exact and_zero_b hg hlo hhi hlt h0
  ·by_cases h1:lo=Gm.notL hi
   ·rw [andG_zero (by rw [hmin,hmax]; exact .inr (hnot.1 h1))]
    rcases ho with ⟨rfl,rfl⟩ | ⟨rfl,rfl⟩
    ·exact and_turned_a hg hlo hhi hlt (by omega) h1
    ·exact and_turned_b hg hlo hhi hlt (by omega) h1
   ·have h2:¬ (min x y=0∨(max x y=min x y+1∧min x y%2=0)):=by
     rw [hmin,hmax]
     rintro (h | h)
     ·exact h0 h
     ·exact h1 (hnot.2 h)
    by_cases h3:lo=1
    ·rw [andG_one h2 (by rw [hmin]; exact .inl h3),hmax]
     rcases ho with ⟨rfl,rfl⟩ | ⟨rfl,rfl⟩
     ·exact and_one_a hg hlo hhi hlt h3 h1
     ·exact and_one_b hg hlo hhi hlt h3 h1
    ·have h4:¬ (min x y=1∨min x y=max x y):=by rw [hmin,hmax]; omega
     cases hf:Gm.find lo hi gs with
     | some k=>
      rw [andG_some h2 h4 (by rw [hmin,hmax]; exact hf)]
      cases mb with
      | none=>exact (zero_of_find hg hf).elim
      | some m=>
       rcases ho with ⟨rfl,rfl⟩ | ⟨rfl,rfl⟩
       ·exact and_found_a hg hlo hhi hlt (by omega) h1 hf
       ·exact and_found_b hg hlo hhi hlt (by omega) h1 hf
     | none=>
      rw [andG_none h2 h4 (by rw [hmin,hmax]; exact hf),hmin,hmax]
      cases mb with
      | none=>
       rcases ho with ⟨rfl,rfl⟩ | ⟨rfl,rfl⟩
       ·exact and_none_a hg hg.low hn hlo hhi hlt (by omega) h1
       ·exact and_none_b hg hg.low hn hlo hhi hlt (by omega) h1
      | some m=>
       rcases ho with ⟨rfl,rfl⟩ | ⟨rfl,rfl⟩
       ·exact and_some_a hg hn hlo hhi hlt (by omega) h1 hf
       ·exact and_some_b hg hn hlo hhi hlt (by omega) h1 hf
 rcases Nat.lt_trichotomy x y with h | h | h
 ·exact key x y hx hy h (.inl ⟨rfl,rfl⟩)
 ·subst h
  by_cases h0:x=0
  ·subst h0
   rw [andG_zero (by simp)]
   exact and_same0 hg hx
  ·by_cases h1:(min x x=0∨(max x x=min x x+1∧min x x%2=0))
   ·omega
   ·rw [andG_one h1 (by omega),Nat.max_self]
    exact and_same hg hx (by omega)
 ·exact key y x hy hx h (.inr ⟨rfl,rfl⟩)
theorem has_small {w:World} {base b:Nat} {mb:Option Nat} {gs:List Gm.Gate} (hg:GraphAt w base b mb gs) {x:Nat} (hx:Gm.has gs x):x≤1000000:=by
 have:=hg.len
 unfold Gm.has at hx
 omega
set_option maxHeartbeats 400000 in
theorem or_any {w:World} {base b:Nat} {mb:Option Nat} {gs:List Gm.Gate} (hg:GraphAt w base b mb gs) (hn:gs.length<99999) {x y:Nat} (hx:Gm.has gs x) (hy:Gm.has gs y) :
  Calls Tryz.prog 63 #[.pointer (some ⟨b,0,none⟩),.int .i64 x,.int .i64 y] w (GPost w base b mb (Gm.orG gs x y)):=by
 have C1:=Lib.hid (has_yes hg hx)
 have C2:=Lib.hid (has_yes hg hy)
 have N1:=Lib.hid (not_any x w (has_small hg hx))
 have N2:=Lib.hid (not_any y w (has_small hg hy))
 have A1:=Lib.hid (and_any hg hn (Gm.has_not hx) (Gm.has_not hy))
 have AH:=Lib.hid (Gm.andG_has (Gm.has_not hx) (Gm.has_not hy))
 clear hg hn hx hy
 go_enter Tryz.func63,Tryz.ntmps63
 go_wp2_with fail
 refine C1.out.mono ?_
 rintro e w' ⟨rfl,rfl⟩
 go_wp2_with fail
 refine C2.out.mono ?_
 rintro e w' ⟨rfl,rfl⟩
 go_wp2_with fail
 refine N1.out.mono ?_
 rintro e w' ⟨rfl,rfl⟩
 go_wp2_with fail
 refine N2.out.mono ?_
 rintro e w' ⟨rfl,rfl⟩
 go_wp2_with fail
 refine A1.out.mono ?_
 rintro e w1 ⟨rfl,mb1,h1,h2,h3⟩
 have N3:=Lib.hid (not_any _ w1 (has_small h1 AH.out))
 have H1:=Lib.hid h1
 have H2:=Lib.hid h2
 have H3:=Lib.hid h3
 clear h1 h2 h3
 go_wp2_with fail
 refine N3.out.mono ?_
 rintro e w' ⟨rfl,rfl⟩
 go_wp2
 go_ret2
 exact ⟨rfl,mb1,H1.out,H2.out,H3.out⟩
set_option maxHeartbeats 400000 in
theorem orOf_any {w:World} {base b:Nat} {mb:Option Nat} {gs:List Gm.Gate} (hg:GraphAt w base b mb gs) (hn:gs.length<99997) {x y u v:Nat} (hx:Gm.has gs x) (hy:Gm.has gs y) (hu:Gm.has gs u) (hv:Gm.has gs v) :
  Calls Tryz.prog 84 #[.pointer (some ⟨b,0,none⟩),.int .i64 x,.int .i64 y,.int .i64 u,.int .i64 v] w (GPost w base b mb (Gm.orOf gs x y u v)):=by
 have l1:=Gm.andG_len gs x y
 have e1:=Gm.andG_ext gs x y
 have HN:=Lib.hid hn
 have A1:=Lib.hid (and_any hg (by omega) hx hy)
 have X1:=Lib.hid (e1.has hu)
 have X2:=Lib.hid (e1.has hv)
 have X3:=Lib.hid (Gm.andG_has hx hy)
 have L1:=Lib.hid l1
 clear hg hn hx hy hu hv l1 e1
 go_enter Tryz.func84,Tryz.ntmps84
 go_wp2_with fail
 refine A1.out.mono ?_
 rintro e w1 ⟨rfl,mb1,h1,h2,h3⟩
 have A2:=Lib.hid (and_any h1 (by have:=L1.out; have:=HN.out; omega) X1.out X2.out)
 have H1:=Lib.hid h1
 have H2:=Lib.hid h2
 have H3:=Lib.hid h3
 clear h1 h2 h3
 go_wp2_with fail
 refine A2.out.mono ?_
 rintro e w2 ⟨rfl,mb2,h1,h2,h3⟩
 have l2:=Gm.andG_len (Gm.andG gs x y).1 u v
 have A3:=Lib.hid (or_any h1 (by have:=L1.out; have:=HN.out; omega) ((Gm.andG_ext (Gm.andG gs x y).1 u v).has X3.out) (Gm.andG_has X1.out X2.out))
 have H4:=Lib.hid h1
 have H5:=Lib.hid (GS_trans H2.out H3.out h2)
 have H6:=Lib.hid (mb_trans H2.out.size H3.out h3)
 clear h1 h2 h3 l2
 go_wp2_with fail
 refine A3.out.mono ?_
 rintro e w3 ⟨rfl,mb3,h1,h2,h3⟩
 have H7:=Lib.hid h1
 have H8:=Lib.hid (GS_trans H5.out H6.out h2)
 have H9:=Lib.hid (mb_trans H5.out.size H6.out h3)
 clear h1 h2 h3
 go_wp2
 go_ret2
 exact ⟨rfl,mb3,H7.out,H8.out,H9.out⟩
set_option maxHeartbeats 400000 in
theorem xor_any {w:World} {base b:Nat} {mb:Option Nat} {gs:List Gm.Gate} (hg:GraphAt w base b mb gs) (hn:gs.length<99997) {x y:Nat} (hx:Gm.has gs x) (hy:Gm.has gs y) :
  Calls Tryz.prog 62 #[.pointer (some ⟨b,0,none⟩),.int .i64 x,.int .i64 y] w (GPost w base b mb (Gm.xorG gs x y)):=by
 have C1:=Lib.hid (has_yes hg hx)
 have C2:=Lib.hid (has_yes hg hy)
 have N1:=Lib.hid (not_any x w (has_small hg hx))
 have N2:=Lib.hid (not_any y w (has_small hg hy))
 have A1:=Lib.hid (orOf_any hg hn hx (Gm.has_not hy) (Gm.has_not hx) hy)
 clear hg hn hx hy
 go_enter Tryz.func62,Tryz.ntmps62
 go_wp2_with fail
 refine C1.out.mono ?_
 rintro e w' ⟨rfl,rfl⟩
 go_wp2_with fail
 refine C2.out.mono ?_
 rintro e w' ⟨rfl,rfl⟩
 go_wp2_with fail
 refine N2.out.mono ?_
 rintro e w' ⟨rfl,rfl⟩
 go_wp2_with fail
 refine N1.out.mono ?_
 rintro e w' ⟨rfl,rfl⟩
 go_wp2_with fail
 refine A1.out.mono ?_
 rintro e w1 ⟨rfl,mb1,h1,h2,h3⟩
 have H1:=Lib.hid h1
 have H2:=Lib.hid h2
 have H3:=Lib.hid h3
 clear h1 h2 h3
 go_wp2
 go_ret2
 exact ⟨rfl,mb1,H1.out,H2.out,H3.out⟩
end Go.Proofs.YthkhfbofhdfdoaaGreatDoor
namespace Go.Proofs.YthkhfbofhdfdoaaGreatDoor
open Go.RowKit
theorem has_int {w:World} {base b:Nat} {mb:Option Nat} {gs:List Gm.Gate} (hg:GraphAt w base b mb gs) {a:Int} (hw:(Lit.int .i64 a).wf=true) :
  Calls Tryz.prog 14 #[.pointer (some ⟨b,0,none⟩),.int .i64 a] w fun e w'=>e = .returned (.bool (hasB gs.length a))∧w=w':=by
 obtain ⟨sv,hblk,hrow⟩:=hg.ex
 obtain ⟨A,c,rfl⟩:=own_form hrow
 exact has_at a hw hg.len hblk
end Go.Proofs.YthkhfbofhdfdoaaGreatDoor
namespace Go.Proofs.YthkhfbofhdfdoaaGreatDoor
open Go.RowKit
def PPost (w:World) (g:Gm.Gate) (e:Ending) (w':World):Prop:=
 e = .returned (.tuple #[.int .i64 (g.a:Nat),.int .i64 (g.b:Nat),.bool g.inp,.nilIface])∧Below w.heap.size w w'
theorem parts_at {w:World} {base b:Nat} {mb:Option Nat} {gs:List Gm.Gate} {i:Nat} {g:Gm.Gate} (hg:GraphAt w base b mb gs) (hi:gs[i]? = some g) :
  Calls Tryz.prog 24 #[.pointer (some ⟨b,0,none⟩),.int .i64 ((i:Int)+1)] w (PPost w g):=by
 obtain ⟨sv,hblk,hrow⟩:=hg.ex
 have hlt:=(List.getElem?_eq_some_iff.1 hi).1
 have hlen:=hg.len
 obtain ⟨A,c,rfl⟩:=own_form hrow
 have C1:=Lib.hid (gates_at hg.len hblk)
 obtain ⟨gb,cap,cur,hv,hgb,hcur,hle,hcm,hcs,hcl⟩:∃ gb cap cur,Value.slice A gs.length c = .slice (some ⟨gb,0,none⟩) gs.length cap∧base≤gb∧w.heap[gb]? = some (.cells cur 54 (0,0))∧gs.length≤cap∧cap≤maxLen∧cur.size=cap*3∧cur.toList.take (gs.length*3)=gateCells 0 gs:=by
  rcases hrow.2 with ⟨h,h0⟩ | h
  ·omega
  ·exact h
 simp only [Value.slice.injEq] at hv
 obtain ⟨rfl,_,rfl⟩:=hv
 have hcell:∀ j u,(gateCells 0 gs)[j]? = some u→w.cell? ⟨gb,j,none⟩=some u:=fun j u hu=>by
  rw [cell_of_row w gb j cur _ (0,0) hcur]
  rw [← hcl,List.getElem?_take] at hu
  split at hu
  ·simpa using hu
  ·cases hu
 obtain ⟨g0,g1,g2⟩:=gateCells_at 0 gs i g hi
 have c0:=hcell _ _ g0
 have c1:=hcell _ _ g1
 have c2:=hcell _ _ g2
 have cb:w.cell? ⟨b,0,none⟩=some (.slice (some ⟨gb,0,none⟩) gs.length c):=hblk.cell 0
 obtain ⟨inp,hinp⟩:∃ inp,inp=(if g.inp then 0+Gm.ins (gs.take i)+1 else 0):=⟨_,rfl⟩
 rw [← hinp] at c2
 have hd:decide (0<inp)=g.inp:=by
  rw [hinp]; cases g.inp <;> simp
 have HD:=Lib.hid hd
 have e0:decide ((i:Int)+1<1)=false:=decide_eq_false (by omega)
 have e1:decide (1+(gs.length:Int)≤(i:Int)+1)=false:=decide_eq_false (by omega)
 have e2:(i:Int)<(gs.length:Int):=by omega
 have e3:(i:Int)≤100000:=by omega
 clear hg hblk hrow hi hlen hcell g0 g1 g2 hinp hd hcur hle hcm hcs hcl hgb hlt
 go_enter Tryz.func24,Tryz.ntmps24
 go_wp2_with fail
 refine C1.out.mono ?_
 rintro e w' ⟨rfl,rfl⟩
 go_wp2_with fail
 go_quiet (fail)
 go_wp2
 refine bodyPost_ret (results_tmp4 rfl _ _ _) rfl ?_
 refine ⟨?_,below_drewN ((Below.refl _ _).alloc (Nat.le_refl _) _) _⟩
 rw [← HD.out]; rfl
end Go.Proofs.YthkhfbofhdfdoaaGreatDoor
namespace Go.Proofs.YthkhfbofhdfdoaaGreatDoor
open Go.RowKit
theorem take_at {gs:List Gm.Gate} {k:Nat} {g:Gm.Gate} (hk:gs[k]? = some g):gs.take (k+1)=gs.take k++[g]:=by
 rw [List.take_add_one,hk]; rfl
end Go.Proofs.YthkhfbofhdfdoaaGreatDoor
namespace Go.Proofs.YthkhfbofhdfdoaaGreatDoor
open Go.RowKit
def GT (B:Nat) (k:Nat) (o:Obj):Prop:=B≤k∧(elemOf o=some 27∨elemOf o=some 54∨elemOf o=none)
def GA (w:World) (B b:Nat) (gs:List Gm.Gate):Prop:=∃ mb,GraphAt w B b mb gs
theorem GA.len {w:World} {B b:Nat} {gs:List Gm.Gate} (h:GA w B b gs):gs.length<100000:=h.elim fun _ h=>h.len
theorem GA.wf {w:World} {B b:Nat} {gs:List Gm.Gate} (h:GA w B b gs):Gm.Wf gs:=h.elim fun _ h=>h.wf
theorem GA.low {w:World} {B b:Nat} {gs:List Gm.Gate} (h:GA w B b gs):B≤w.heap.size:=h.elim fun _ h=>h.low
theorem GraphAt.types {w:World} {B b:Nat} {mb:Option Nat} {gs:List Gm.Gate} (h:GraphAt w B b mb gs):∀ k o,w.heap[k]? = some o→GS B b mb k o→GT B k o:=by
 intro k o ho hs
 rcases hs with rfl | hs | hs
 ·obtain ⟨sv,hb,_⟩:=h.ex
  unfold Blk at hb
  rw [hb] at ho
  injection ho with ho
  subst ho
  exact ⟨h.hb,.inl rfl⟩
 ·have hm:=h.hm
  subst hs
  obtain ⟨hm1,D,⟨es,c,hh,_⟩,_⟩:=hm
  rw [hh] at ho
  injection ho with ho
  subst ho
  exact ⟨hm1,.inr (.inr rfl)⟩
 ·exact ⟨hs.1,.inr (.inl hs.2)⟩
theorem GA.chg {w w':World} {B b:Nat} {gs:List Gm.Gate} {S:Nat→Obj→Prop} (h:GA w B b gs) (hc:Chg S w w')
  (hS:∀ k o,B≤k→S k o→elemOf o≠some 27∧elemOf o≠some 54∧elemOf o≠none):GA w' B b gs:=by
 obtain ⟨mb,h⟩:=h
 refine ⟨mb,h.chg hc (fun _ hs=>(hS _ _ h.hb hs).1 rfl) (fun _ _ hk hs=>(hS _ _ hk hs).2.1 rfl) fun m es c hm hs=>?_⟩
 subst hm
 exact (hS _ _ h.hm.1 hs).2.2 rfl
theorem GA.new {w w':World} {B b:Nat} {gs:List Gm.Gate} (h:GA w B b gs) (hb:Below w.heap.size w w'):GA w' B b gs:=h.elim fun mb h=>⟨mb,h.new hb⟩
theorem GA.drewN {w:World} {B b:Nat} {gs:List Gm.Gate} (h:GA w B b gs) (n:Nat):GA (w.drewN n) B b gs:=h.elim fun mb h=>⟨mb,h.drewN n⟩
theorem GT.below {w w':World} {B:Nat} (hc:Chg (GT B) w w') (hB:B≤w.heap.size):Below B w w':=hc.below (fun _ _ _ h=>h.1) hB
def GP (w:World) (B b:Nat) (r:List Gm.Gate×Nat) (e:Ending) (w':World):Prop:=
 e = .returned (.tuple #[.int .i64 (r.2:Nat),.nilIface])∧GA w' B b r.1∧Chg (GT B) w w'
theorem gp_of {w:World} {B b:Nat} {mb:Option Nat} {gs:List Gm.Gate} {r:List Gm.Gate×Nat} (hg:GraphAt w B b mb gs) {e:Ending} {w':World} (h:GPost w B b mb r e w'):GP w B b r e w':=by
 obtain ⟨he,mb',h1,h2,_⟩:=h
 exact ⟨he,⟨mb',h1⟩,h2.mono hg.types⟩
section
variable {w:World} {B b:Nat} {gs:List Gm.Gate} {ea:Nat→Addr} {BE:Nat}
theorem input_ga (h:GA w B b gs) (hn:gs.length<99999):Calls Tryz.prog 6 #[.pointer (some ⟨b,0,none⟩)] w (GP w B b (Gm.inpG gs)):=by
 obtain ⟨mb,h⟩:=h
 exact (input_room h hn).mono fun _ _ x=>gp_of h x
theorem and_ga (h:GA w B b gs) (hn:gs.length<99999) {x y:Nat} (hx:Gm.has gs x) (hy:Gm.has gs y):Calls Tryz.prog 61 #[.pointer (some ⟨b,0,none⟩),.int .i64 x,.int .i64 y] w (GP w B b (Gm.andG gs x y)):=by
 obtain ⟨mb,h⟩:=h
 exact (and_any h hn hx hy).mono fun _ _ x=>gp_of h x
theorem or_ga (h:GA w B b gs) (hn:gs.length<99999) {x y:Nat} (hx:Gm.has gs x) (hy:Gm.has gs y):Calls Tryz.prog 63 #[.pointer (some ⟨b,0,none⟩),.int .i64 x,.int .i64 y] w (GP w B b (Gm.orG gs x y)):=by
 obtain ⟨mb,h⟩:=h
 exact (or_any h hn hx hy).mono fun _ _ x=>gp_of h x
theorem xor_ga (h:GA w B b gs) (hn:gs.length<99997) {x y:Nat} (hx:Gm.has gs x) (hy:Gm.has gs y):Calls Tryz.prog 62 #[.pointer (some ⟨b,0,none⟩),.int .i64 x,.int .i64 y] w (GP w B b (Gm.xorG gs x y)):=by
 obtain ⟨mb,h⟩:=h
 exact (xor_any h hn hx hy).mono fun _ _ x=>gp_of h x
end
end Go.Proofs.YthkhfbofhdfdoaaGreatDoor
namespace Go.Proofs.YthkhfbofhdfdoaaGreatDoor
open Go.RowKit
theorem parts_ga {w:World} {B b:Nat} {gs:List Gm.Gate} {i:Nat} {g:Gm.Gate} (hg:GA w B b gs) (hi:gs[i]? = some g) :
  Calls Tryz.prog 24 #[.pointer (some ⟨b,0,none⟩),.int .i64 ((i:Int)+1)] w (PPost w g):=by
 obtain ⟨mb,hg⟩:=hg
 exact parts_at hg hi
end Go.Proofs.YthkhfbofhdfdoaaGreatDoor
namespace Go.Proofs.YthkhfbofhdfdoaaGreatDoor
open Go.RowKit
def boolRow (l:List Bool):Array Value:=(boolVals l).toArray
theorem infoBool:(Tryz.prog.info? 4).map (fun i=>(i.zero,i.size,i.bytes))=some (some (.bool false),1,1):=by kernel_rfl
theorem run_make_bools (n:Nat) (hn:n≤1000000) (w:World):(Instr.makeSlice 43 (.int .i64 ((n:Int)+1)) (.int .i64 ((n:Int)+1))).run Tryz.prog w =
  .ok (.slice (some ⟨w.heap.size,0,none⟩) (n+1) (n+1)) (w.alloc (.cells (boolRow (List.replicate (n+1) false)) 4)):=by
 obtain ⟨i0,hi,hz0,hz1,hz2⟩:=info_parts infoBool
 have h:=run_make_rowN (P:=Tryz.prog) 43 4 i0 (.bool false) Tryz.underlying43 hi hz0 .i64 .i64 (n+1) (n+1) (Nat.le_refl _) (by rw [hz2]; omega) (by omega) w
 have e:(((n+1:Nat):Int))=(n:Int)+1:=by omega
 rw [e,hz1,Nat.mul_one] at h
 rw [h]
 have e2:madeCells (Value.bool false).cells (n+1)=boolRow (List.replicate (n+1) false):=by
  apply Array.ext'
  rw [show (Value.bool false).cells = #[.bool false] from rfl,toList_madeCells_one]
  simp [boolRow,boolVals]
 rw [e2]
attribute [local irreducible] wpStill
end Go.Proofs.YthkhfbofhdfdoaaGreatDoor
namespace Go.Proofs.YthkhfbofhdfdoaaGreatDoor
open Go.RowKit
theorem run_make_bools1 (n:Nat) (hn:n≤1000000) (w:World):(Instr.makeSlice 43 (.int .i64 (1+(n:Int))) (.int .i64 (1+(n:Int)))).run Tryz.prog w =
  .ok (.slice (some ⟨w.heap.size,0,none⟩) (n+1) (n+1)) (w.alloc (.cells (boolRow (List.replicate (n+1) false)) 4)):=by
 have h:=run_make_bools n hn w
 rwa [Int.add_comm] at h
attribute [local irreducible] wpStill
end Go.Proofs.YthkhfbofhdfdoaaGreatDoor
namespace Go.Proofs.YthkhfbofhdfdoaaGreatDoor
open Go.RowKit
def natVals (l:List Nat):List Value:=litVals (l.map fun (x:Nat)=>(x:Int))
theorem natVals_at {l:List Nat} {k x:Nat} (h:l[k]? = some x):(natVals l)[k]? = some (.int .i64 (x:Int)):=by unfold natVals litVals; simp [h]
theorem natVals_append (l r:List Nat):natVals (l++r)=natVals l++natVals r:=by unfold natVals litVals; simp
theorem natVals_length (l:List Nat):(natVals l).length=l.length:=by unfold natVals litVals; simp
theorem own_grown_below {W wr w1:World} {base n:Nat} {e:TypeId} {v:Value} {xs:List Value} {o:Obj} (hb:Below W.heap.size W wr) (ho:wr.ownsRow base e 1 v n xs) (hbs:W.heap.size≤base) (hg:(wr.alloc o).grownBy w1 v.ownBlock):Below W.heap.size W w1:=by
 refine (hb.alloc hb.size o).trans ⟨hg.os,hg.tape,hg.output,hg.size,fun k hk=>hg.block k (by have:=hb.size; simp; omega) fun h=>?_⟩
 rcases ho.2 with ⟨rfl,_⟩ | ⟨g',cap,cur,rfl,hbb,_⟩
 ·simp [Value.ownBlock] at h
 ·simp only [Value.ownBlock,Option.some.injEq] at h
  omega
theorem infoLit_:(Tryz.prog.info? 29).map (fun i=>(i.zero,i.size,i.bytes))=some (some (.int .i64 0),1,8):=by kernel_rfl
theorem row_chg {w w1:World} {base n e:Nat} {v:Value} {xs:List Value} {o:Obj} (ho:w.ownsRow base e 1 v n xs) (hg:(w.alloc o).grownBy w1 v.ownBlock):Chg (fun _ o=>elemOf o=some e) w w1:=by
 refine ((Chg.refl _ w).alloc o).grown hg fun k o' hk ho'=>?_
 rcases ho.2 with ⟨rfl,_⟩ | ⟨g',cap,cur,rfl,_,hh,_⟩
 ·simp [Value.ownBlock] at hk
 ·simp only [Value.ownBlock,Option.some.injEq] at hk
  subst hk
  rw [hh] at ho'
  injection ho' with ho'
  subst ho'
  rfl
theorem GA.row {w w1:World} {B b:Nat} {gs:List Gm.Gate} (h:GA w B b gs) (hc:Chg (fun _ o=>elemOf o=some 29) w w1):GA w1 B b gs:=
 h.chg hc fun k o _ hs=>by rw [hs]; exact ⟨by simp,by simp,by simp⟩
theorem gt_grown {W w w1:World} {B base n e:Nat} {v:Value} {xs:List Value} {o:Obj} (h:Chg (GT B) W w) (ho:w.ownsRow base e 1 v n xs) (hb:W.heap.size≤base) (hg:(w.alloc o).grownBy w1 v.ownBlock):Chg (GT B) W w1:=
 (h.alloc o).grown hg fun k o' hk ho'=>by
  have:=lt_of_heap ho'
  rcases ho.2 with ⟨rfl,_⟩ | ⟨g',cap,cur,rfl,hbb,_⟩
  ·simp [Value.ownBlock] at hk
  ·simp only [Value.ownBlock,Option.some.injEq] at hk
   omega
theorem own_gt {w w':World} {B base n:Nat} {v:Value} {xs:List Value} (h:w.ownsRow base 29 1 v n xs) (hc:Chg (GT B) w w'):w'.ownsRow base 29 1 v n xs:=
 own_chg h hc fun g cur _ _ hs=>by rcases hs.2 with e | e | e <;> simp [elemOf] at e
theorem own_full {w:World} {base e n:Nat} {xs:List Value} (hb:base≤w.heap.size) (hl:xs.length=n) (hn:n≤1000000) :
  (w.alloc (.cells xs.toArray e)).ownsRow base e 1 (.slice (some ⟨w.heap.size,0,none⟩) n n) n xs:=
 ⟨by omega,.inr ⟨w.heap.size,n,xs.toArray,rfl,hb,heap_alloc_new w _,Nat.le_refl _,le_maxLen hn,by simp [hl],by rw [Nat.mul_one,← hl]; simp⟩⟩
theorem own_set {w:World} {base e n c g k:Nat} {xs:List Value} (h:w.ownsRow base e 1 (.slice (some ⟨g,0,none⟩) n c) n xs) (u:Value) :
  (w.setCell ⟨g,k,none⟩ u).ownsRow base e 1 (.slice (some ⟨g,0,none⟩) n c) n (xs.set k u):=by
 refine ⟨by simpa using h.1,?_⟩
 rcases h.2 with ⟨h0,_⟩ | ⟨g',cap,cur,hv,hb,hh,hn,hm,hs,ht⟩
 ·cases h0
 ·obtain ⟨rfl,rfl⟩:g=g'∧c=cap:=by simpa using hv
  refine .inr ⟨g,c,cur.setIfInBounds k u,rfl,hb,Blk.set_ (t:=e) hh k u,hn,hm,by simpa using hs,?_⟩
  rw [← ht]; simp [List.take_set]
theorem natVals_set (l:List Nat) (i y:Nat):natVals (l.set i y)=(natVals l).set i (.int .i64 (y:Nat)):=by
 unfold natVals litVals; rw [List.map_map,List.map_map,List.map_set]; rfl
theorem own_cell {w:World} {base e n g k:Nat} {c:Nat} {xs:List Value} (h:w.ownsRow base e 1 (.slice (some ⟨g,0,none⟩) n c) n xs) (hk:k<n):∃ u,xs[k]? = some u∧w.cell? ⟨g,k,none⟩=some u:=by
 have hl:k<xs.length:=by have:=h.1; omega
 obtain ⟨u,hu⟩:∃ u,xs[k]? = some u:=⟨_,List.getElem?_eq_getElem hl⟩
 have:=h.cells (g:=g) rfl k u hu
 refine ⟨u,hu,?_⟩
 have e:(⟨g,0,none⟩:Addr).add k=⟨g,k,none⟩:=by unfold Addr.add; split <;> simp_all
 rw [← e]; exact this
theorem own_some {w:World} {base e n:Nat} {A:Option Addr} {c:Nat} {xs:List Value} (h:w.ownsRow base e 1 (.slice A n c) n xs) (hn:0<n):∃ g,A=some ⟨g,0,none⟩∧base≤g∧g<w.heap.size:=by
 obtain ⟨g,cap,hv,hb,hlt⟩:=h.form hn
 exact ⟨g,by simp only [Value.slice.injEq] at hv; exact hv.1,hb,hlt⟩
theorem own_unfrozen {w:World} {base e n g k:Nat} {c:Nat} {xs:List Value} (h:w.ownsRow base e 1 (.slice (some ⟨g,0,none⟩) n c) n xs):w.frozen? ⟨g,k,none⟩=false:=by
 rcases h.2 with ⟨h0,_⟩ | ⟨g',cap,cur,hv,_,hh,_⟩
 ·cases h0
 ·obtain ⟨rfl,rfl⟩:g=g'∧c=cap:=by simpa using hv
  exact Blk.frozen (t:=e) hh k
theorem natVals_take (l:List Nat) (n:Nat):natVals (l.take n)=(natVals l).take n:=by unfold natVals litVals; rw [List.map_take,List.map_take]
theorem own_take {w:World} {base e n m c:Nat} {A:Option Addr} {xs:List Value} (h:w.ownsRow base e 1 (.slice A m c) m xs) (hn:n≤m) (hm:0<m):w.ownsRow base e 1 (.slice A n c) n (xs.take n):=by
 refine ⟨by rw [List.length_take,h.1]; omega,?_⟩
 rcases h.2 with ⟨_,h0⟩ | ⟨g',cap,cur,hv,hbb,hh,hnc,hml,hs,ht⟩
 ·omega
 ·obtain ⟨rfl,rfl⟩:A=some ⟨g',0,none⟩∧c=cap:=by simpa using hv
  refine .inr ⟨g',c,cur,rfl,hbb,hh,by omega,hml,hs,?_⟩
  rw [← ht,List.take_take]; congr 1; omega
theorem has_lit {w:World} {B b:Nat} {gs:List Gm.Gate} (h:GA w B b gs) {x:Nat} (hx:Gm.has gs x) (hl:gs.length≤99000) :
  Calls Tryz.prog 14 #[.pointer (some ⟨b,0,none⟩),.int .i64 x] w fun e w'=>e = .returned (.bool true)∧w=w':=by
 obtain ⟨mb,h⟩:=h
 have hx':x<2*gs.length+2:=hx
 have hb:hasB gs.length (x:Int)=true:=by unfold hasB; simp; omega
 have hw:(Lit.int .i64 (x:Int)).wf=true:=wf_small (by omega)
 have:=has_int h hw
 rw [hb] at this
 exact this
theorem infoBool_:(Tryz.prog.info? 4).map (fun i=>(i.zero,i.size,i.bytes))=some (some (.bool false),1,1):=by kernel_rfl
end Go.Proofs.YthkhfbofhdfdoaaGreatDoor
