/- Plain laws and walks for the law WordSums; no condition. -/
import Derived.Test.YthkhfbofhdfdoaaGreatDoorBa
import Derived.Lib.SlicesS
import Derived.Outline
import Derived.Laws.EntriesVeiled
import Derived.Defers
import Derived.Recover
namespace Go.Proofs.YthkhfbofhdfdoaaGreatDoor
open Go.RowKit
def strVals (l:List ByteArray):List Value:=l.map Value.string
theorem strVals_at {l:List ByteArray} {k:Nat} {x:ByteArray} (h:l[k]? = some x):(strVals l)[k]? = some (.string x):=by unfold strVals; simp [h]
def idxS (s:ByteArray):List ByteArray→Int
 | [] => -1
 | x::r=>if s=x then 0 else if idxS s r = -1 then -1 else idxS s r+1
theorem idxS_ge (s:ByteArray):∀ l,-1≤idxS s l
 | []=>by simp [idxS]
 | x::r=>by have:=idxS_ge s r; unfold idxS; split <;> (try split) <;> omega
theorem idxS_at {s:ByteArray}:∀ {l:List ByteArray} {k:Nat},(∀ j x,l[j]? = some x→j<k→s≠x)→l[k]? = some s→idxS s l=k
 | [],_,_,h=>by simp at h
 | x::r,0,_,h=>by
  simp only [List.getElem?_cons_zero,Option.some.injEq] at h
  subst h; simp [idxS]
 | x::r,k+1,hn,h=>by
  have h0:=hn 0 x rfl (by omega)
  have ih:=idxS_at (s:=s) (l:=r) (k:=k) (fun j y hj hk=>hn (j+1) y (by simpa using hj) (by omega)) (by simpa using h)
  unfold idxS
  rw [if_neg h0,ih,if_neg (by omega)]; omega
theorem idxS_none {s:ByteArray}:∀ {l:List ByteArray},(∀ x∈l,s≠x)→idxS s l = -1
 | [],_=>rfl
 | x::r,hn=>by
  have ih:=idxS_none (s:=s) (l:=r) fun y hy=>hn y (List.mem_cons_of_mem _ hy)
  unfold idxS
  rw [if_neg (hn x (List.mem_cons_self ..)),ih]; rfl
def IxR (s:ByteArray) (l:List ByteArray) (iv:Value):Prop:=∃ k:Nat,k≤l.length∧iv = .int .i64 k∧∀ j x,l[j]? = some x→j<k→s≠x
set_option maxHeartbeats 400000 in
theorem index_any {w:World} {LB:Nat} {A:Option Addr} {c:Nat} {l:List ByteArray} (h:Reads w LB 1 A l.length (strVals l)) (hl:l.length≤1000) (s:ByteArray) :
  Calls Tryz.prog 83 #[.slice A l.length c,.string s] w fun e w'=>e = .returned (.int .i64 (idxS s l))∧w=w':=by
 have H:=Lib.hid h
 clear h
 go_enter Tryz.func83,Tryz.ntmps83
 go_wp2
 go_loop [8] (fun iv=>IxR s l iv) (fun iv=>l.length-(intOf iv).toNat)
 case atStart=>exact ⟨0,Nat.zero_le _,rfl,fun j x _ h=>by omega⟩
 case round=>
  obtain ⟨k,hk,rfl,hn⟩:=hrel
  have HN:=Lib.hid hn
  clear hn
  by_cases hkl:k<l.length
  ·obtain ⟨x,hx⟩:∃ x,l[k]? = some x:=⟨_,List.getElem?_eq_getElem hkl⟩
   obtain ⟨ad,u,hA,_,hu,hc⟩:=H.out.at_ hkl
   subst hA
   obtain rfl:Value.string x=u:=by rw [strVals_at hx] at hu; injection hu
   have HX:=Lib.hid hx
   clear hu hx
   by_cases hs:s=x
   ·subst hs
    go_wp2
    go_ret
    refine ⟨?_,rfl⟩
    rw [idxS_at HN.out HX.out]; rfl
   ·have hb:(s.toList == x.toList)=false:=(Lib.bytes_beq_false_iff s x).2 hs
    go_wp2
    go_round
    case rel=>
     refine ⟨k+1,by omega,by go_num,fun j y hj hjk=>?_⟩
     rcases Nat.lt_or_ge j k with h | h
     ·exact HN.out j y hj h
     ·obtain rfl:j=k:=by omega
      have:=HX.out
      rw [this] at hj
      injection hj with hj
      subst hj
      exact hs
    case measure=>simp [intOf]; omega
  ·obtain rfl:k=l.length:=by omega
   go_wp2
   go_ret
   refine ⟨?_,rfl⟩
   have hno:∀ x∈l,s≠x:=fun x hx=>by
    obtain ⟨j,hj⟩:=List.mem_iff_getElem?.1 hx
    exact HN.out j x hj (List.getElem?_eq_some_iff.1 hj).1
   rw [idxS_none hno]; rfl
theorem contains_any {w:World} {LB:Nat} {A:Option Addr} {c:Nat} {l:List ByteArray} (h:Reads w LB 1 A l.length (strVals l)) (hl:l.length≤1000) (s:ByteArray) {b:Bool} (hb:decide (0≤idxS s l)=b) :
  Calls Tryz.prog 58 #[.slice A l.length c,.string s] w fun e w'=>e = .returned (.bool b)∧w=w':=by
 have C:=Lib.hid (index_any (c:=c) h hl s)
 obtain ⟨i,hi⟩:∃ i,i=idxS s l:=⟨_,rfl⟩
 rw [← hi] at C hb
 have hi1 : -1≤i:=by rw [hi]; exact idxS_ge s l
 clear hi h
 go_enter Tryz.func58,Tryz.ntmps58
 go_wp2_with fail
 refine C.out.mono ?_
 rintro e w' ⟨rfl,rfl⟩
 go_wp2
 go_ret
 exact ⟨rfl,rfl⟩
end Go.Proofs.YthkhfbofhdfdoaaGreatDoor
namespace Go.Proofs.YthkhfbofhdfdoaaGreatDoor
open Go.RowKit
def lvl:Nat→List ByteArray
 | 0=>[⟨#[111,114]⟩,⟨#[120,111,114]⟩]
 | 1=>[⟨#[97,110,100]⟩]
 | 2=>[⟨#[61]⟩,⟨#[60,62]⟩,⟨#[60]⟩,⟨#[60,61]⟩,⟨#[62]⟩,⟨#[62,61]⟩,⟨#[61,62]⟩]
 | 3=>[⟨#[43]⟩,⟨#[45]⟩]
 | _=>[⟨#[42]⟩,⟨#[47]⟩,⟨#[109,111,100]⟩]
def inLv (s:ByteArray):Bool:=(List.range 5).any fun j=>decide (0≤idxS s (lvl j))
def arN (s:ByteArray):Int:=
 if s.toList == [105,110,116]||s.toList == [116,114,117,101]||s.toList == [102,97,108,115,101]||s.toList == [110,97,109,101] then 0
 else if s.toList == [110,111,116]||s.toList == [110,101,103]||s.toList == [112,114,101] then 1
 else if s.toList == [105,102] then 3
 else if s.toList == [99,97,108,108] then -1
 else if s.toList == [45,62]||s.toList == [102,98,121] then 2
 else if inLv s then 2 else 0
def arB (s:ByteArray):Bool:=
 s.toList == [105,110,116]||s.toList == [116,114,117,101]||s.toList == [102,97,108,115,101]||s.toList == [110,97,109,101] ||
 s.toList == [110,111,116]||s.toList == [110,101,103]||s.toList == [112,114,101]||s.toList == [105,102]||s.toList == [99,97,108,108]||s.toList == [45,62]||s.toList == [102,98,121]||inLv s
structure Lvls (w:World) (LB:Nat):Prop where
 ex:∃ (A0 A1 A2 A3 A4:Option Addr) (c0 c1 c2 c3 c4:Nat),w.cell? ⟨4,0,none⟩=some (.slice A0 2 c0)∧w.cell? ⟨4,1,none⟩=some (.slice A1 1 c1)∧w.cell? ⟨4,2,none⟩=some (.slice A2 7 c2) ∧
  w.cell? ⟨4,3,none⟩=some (.slice A3 2 c3)∧w.cell? ⟨4,4,none⟩=some (.slice A4 3 c4)∧Reads w LB 1 A0 2 (strVals (lvl 0))∧Reads w LB 1 A1 1 (strVals (lvl 1))∧Reads w LB 1 A2 7 (strVals (lvl 2))∧Reads w LB 1 A3 2 (strVals (lvl 3))∧Reads w LB 1 A4 3 (strVals (lvl 4))
 low:4<LB
theorem Lvls.keep {w w':World} {LB:Nat} (h:Lvls w LB) (hk:∀ p:Addr,p.block<LB→w'.cell? p=w.cell? p):Lvls w' LB:=by
 obtain ⟨⟨A0,A1,A2,A3,A4,c0,c1,c2,c3,c4,h0,h1,h2,h3,h4,r0,r1,r2,r3,r4⟩,hl⟩:=h
 exact ⟨⟨A0,A1,A2,A3,A4,c0,c1,c2,c3,c4,(hk _ hl).trans h0,(hk _ hl).trans h1,(hk _ hl).trans h2,(hk _ hl).trans h3,(hk _ hl).trans h4,r0.keep hk,r1.keep hk,r2.keep hk,r3.keep hk,r4.keep hk⟩,hl⟩
theorem Lvls.below {w w':World} {LB B:Nat} (h:Lvls w LB) (hb:Below B w w') (hB:LB≤B):Lvls w' LB:=h.keep fun _ hp=>hb.cell (by omega)
def ArR (s:ByteArray) (iv:Value):Prop:=∃ k:Nat,k≤5∧iv = .int .i64 k∧∀ j,j<k→idxS s (lvl j) = -1
def ArP (s:ByteArray) (w:World) (e:Ending) (w':World):Prop:=e = .returned (.tuple #[.int .i64 (arN s),.bool (arB s)])∧w=w'
theorem arP_of {s:ByteArray} {w:World} {n:Int} {b:Bool} (h1:arN s=n) (h2:arB s=b):ArP s w (.returned (.tuple #[.int .i64 n,.bool b])) w:=by subst h1; subst h2; exact ⟨rfl,rfl⟩
theorem inLv_at {s:ByteArray} {j:Nat} (hj:j<5) (h:0≤idxS s (lvl j)):inLv s=true:=by
 unfold inLv; rw [List.any_eq_true]; exact ⟨j,by simpa using hj,by simpa using h⟩
theorem inLv_no {s:ByteArray} (h:∀ j,j<5→idxS s (lvl j) = -1):inLv s=false:=by
 unfold inLv; rw [List.any_eq_false]; intro j hj; have:=h j (by simpa using hj); simp [this]
set_option maxRecDepth 100000 in
set_option maxHeartbeats 1000000 in
theorem ar_0 {w:World} {s:ByteArray} (e0:(s.toList == [105,110,116])=true):Calls Tryz.prog 30 #[.string s] w (ArP s w):=by
 have hn:arN s=0:=by unfold arN; simp [e0]
 have hb:arB s=true:=by unfold arB; simp [e0]
 have HNB:=Lib.hid (And.intro hn hb)
 clear hn hb
 go_enter Tryz.func30,Tryz.ntmps30
 go_wp2_with fail
 go_ret2
 exact arP_of HNB.out.1 HNB.out.2
set_option maxHeartbeats 1000000 in
theorem ar_1 {w:World} {s:ByteArray} (e0:(s.toList == [105,110,116])=false) (e1:(s.toList == [116,114,117,101])=true):Calls Tryz.prog 30 #[.string s] w (ArP s w):=by
 have hn:arN s=0:=by unfold arN; simp [e0,e1]
 have hb:arB s=true:=by unfold arB; simp [e0,e1]
 have HNB:=Lib.hid (And.intro hn hb)
 clear hn hb
 go_enter Tryz.func30,Tryz.ntmps30
 go_wp2_with fail
 go_ret2
 exact arP_of HNB.out.1 HNB.out.2
set_option maxHeartbeats 1000000 in
theorem ar_2 {w:World} {s:ByteArray} (e0:(s.toList == [105,110,116])=false) (e1:(s.toList == [116,114,117,101])=false) (e2:(s.toList == [102,97,108,115,101])=true):Calls Tryz.prog 30 #[.string s] w (ArP s w):=by
 have hn:arN s=0:=by unfold arN; simp [e0,e1,e2]
 have hb:arB s=true:=by unfold arB; simp [e0,e1,e2]
 have HNB:=Lib.hid (And.intro hn hb)
 clear hn hb
 go_enter Tryz.func30,Tryz.ntmps30
 go_wp2_with fail
 go_ret2
 exact arP_of HNB.out.1 HNB.out.2
set_option maxHeartbeats 1000000 in
theorem ar_3 {w:World} {s:ByteArray} (e0:(s.toList == [105,110,116])=false) (e1:(s.toList == [116,114,117,101])=false) (e2:(s.toList == [102,97,108,115,101])=false) (e3:(s.toList == [110,97,109,101])=true):Calls Tryz.prog 30 #[.string s] w (ArP s w):=by
 have hn:arN s=0:=by unfold arN; simp [e0,e1,e2,e3]
 have hb:arB s=true:=by unfold arB; simp [e0,e1,e2,e3]
 have HNB:=Lib.hid (And.intro hn hb)
 clear hn hb
 go_enter Tryz.func30,Tryz.ntmps30
 go_wp2_with fail
 go_ret2
 exact arP_of HNB.out.1 HNB.out.2
set_option maxHeartbeats 1000000 in
theorem ar_4 {w:World} {s:ByteArray} (e0:(s.toList == [105,110,116])=false) (e1:(s.toList == [116,114,117,101])=false) (e2:(s.toList == [102,97,108,115,101])=false) (e3:(s.toList == [110,97,109,101])=false) (e4:(s.toList == [110,111,116])=true):Calls Tryz.prog 30 #[.string s] w (ArP s w):=by
 have hn:arN s=1:=by unfold arN; simp [e0,e1,e2,e3,e4]
 have hb:arB s=true:=by unfold arB; simp [e0,e1,e2,e3,e4]
 have HNB:=Lib.hid (And.intro hn hb)
 clear hn hb
 go_enter Tryz.func30,Tryz.ntmps30
 go_wp2_with fail
 go_ret2
 exact arP_of HNB.out.1 HNB.out.2
set_option maxHeartbeats 1000000 in
theorem ar_5 {w:World} {s:ByteArray} (e0:(s.toList == [105,110,116])=false) (e1:(s.toList == [116,114,117,101])=false) (e2:(s.toList == [102,97,108,115,101])=false) (e3:(s.toList == [110,97,109,101])=false) (e4:(s.toList == [110,111,116])=false) (e5:(s.toList == [110,101,103])=true):Calls Tryz.prog 30 #[.string s] w (ArP s w):=by
 have hn:arN s=1:=by unfold arN; simp [e0,e1,e2,e3,e4,e5]
 have hb:arB s=true:=by unfold arB; simp [e0,e1,e2,e3,e4,e5]
 have HNB:=Lib.hid (And.intro hn hb)
 clear hn hb
 go_enter Tryz.func30,Tryz.ntmps30
 go_wp2_with fail
 go_ret2
 exact arP_of HNB.out.1 HNB.out.2
set_option maxHeartbeats 1000000 in
theorem ar_6 {w:World} {s:ByteArray} (e0:(s.toList == [105,110,116])=false) (e1:(s.toList == [116,114,117,101])=false) (e2:(s.toList == [102,97,108,115,101])=false) (e3:(s.toList == [110,97,109,101])=false) (e4:(s.toList == [110,111,116])=false) (e5:(s.toList == [110,101,103])=false) (e6:(s.toList == [112,114,101])=true):Calls Tryz.prog 30 #[.string s] w (ArP s w):=by
 have hn:arN s=1:=by unfold arN; simp [e0,e1,e2,e3,e4,e5,e6]
 have hb:arB s=true:=by unfold arB; simp [e0,e1,e2,e3,e4,e5,e6]
 have HNB:=Lib.hid (And.intro hn hb)
 clear hn hb
 go_enter Tryz.func30,Tryz.ntmps30
 go_wp2_with fail
 go_ret2
 exact arP_of HNB.out.1 HNB.out.2
set_option maxHeartbeats 1000000 in
theorem ar_7 {w:World} {s:ByteArray} (e0:(s.toList == [105,110,116])=false) (e1:(s.toList == [116,114,117,101])=false) (e2:(s.toList == [102,97,108,115,101])=false) (e3:(s.toList == [110,97,109,101])=false) (e4:(s.toList == [110,111,116])=false) (e5:(s.toList == [110,101,103])=false) (e6:(s.toList == [112,114,101])=false) (e7:(s.toList == [105,102])=true):Calls Tryz.prog 30 #[.string s] w (ArP s w):=by
 have hn:arN s=3:=by unfold arN; simp [e0,e1,e2,e3,e4,e5,e6,e7]
 have hb:arB s=true:=by unfold arB; simp [e0,e1,e2,e3,e4,e5,e6,e7]
 have HNB:=Lib.hid (And.intro hn hb)
 clear hn hb
 go_enter Tryz.func30,Tryz.ntmps30
 go_wp2_with fail
 go_ret2
 exact arP_of HNB.out.1 HNB.out.2
set_option maxHeartbeats 1000000 in
theorem ar_8 {w:World} {s:ByteArray} (e0:(s.toList == [105,110,116])=false) (e1:(s.toList == [116,114,117,101])=false) (e2:(s.toList == [102,97,108,115,101])=false) (e3:(s.toList == [110,97,109,101])=false) (e4:(s.toList == [110,111,116])=false) (e5:(s.toList == [110,101,103])=false) (e6:(s.toList == [112,114,101])=false) (e7:(s.toList == [105,102])=false) (e8:(s.toList == [99,97,108,108])=true):Calls Tryz.prog 30 #[.string s] w (ArP s w):=by
 have hn:arN s = -1:=by unfold arN; simp [e0,e1,e2,e3,e4,e5,e6,e7,e8]
 have hb:arB s=true:=by unfold arB; simp [e0,e1,e2,e3,e4,e5,e6,e7,e8]
 have HNB:=Lib.hid (And.intro hn hb)
 clear hn hb
 go_enter Tryz.func30,Tryz.ntmps30
 go_wp2_with fail
 go_ret2
 exact arP_of HNB.out.1 HNB.out.2
set_option maxHeartbeats 1000000 in
theorem ar_9 {w:World} {s:ByteArray} (e0:(s.toList == [105,110,116])=false) (e1:(s.toList == [116,114,117,101])=false) (e2:(s.toList == [102,97,108,115,101])=false) (e3:(s.toList == [110,97,109,101])=false) (e4:(s.toList == [110,111,116])=false) (e5:(s.toList == [110,101,103])=false) (e6:(s.toList == [112,114,101])=false) (e7:(s.toList == [105,102])=false) (e8:(s.toList == [99,97,108,108])=false) (e9:(s.toList == [45,62])=true):Calls Tryz.prog 30 #[.string s] w (ArP s w):=by
 have hn:arN s=2:=by unfold arN; simp [e0,e1,e2,e3,e4,e5,e6,e7,e8,e9]
 have hb:arB s=true:=by unfold arB; simp [e0,e1,e2,e3,e4,e5,e6,e7,e8,e9]
 have HNB:=Lib.hid (And.intro hn hb)
 clear hn hb
 go_enter Tryz.func30,Tryz.ntmps30
 go_wp2_with fail
 go_ret2
 exact arP_of HNB.out.1 HNB.out.2
set_option maxHeartbeats 1000000 in
theorem ar_10 {w:World} {s:ByteArray} (e0:(s.toList == [105,110,116])=false) (e1:(s.toList == [116,114,117,101])=false) (e2:(s.toList == [102,97,108,115,101])=false) (e3:(s.toList == [110,97,109,101])=false) (e4:(s.toList == [110,111,116])=false) (e5:(s.toList == [110,101,103])=false) (e6:(s.toList == [112,114,101])=false) (e7:(s.toList == [105,102])=false) (e8:(s.toList == [99,97,108,108])=false) (e9:(s.toList == [45,62])=false) (e10:(s.toList == [102,98,121])=true):Calls Tryz.prog 30 #[.string s] w (ArP s w):=by
 have hn:arN s=2:=by unfold arN; simp [e0,e1,e2,e3,e4,e5,e6,e7,e8,e9,e10]
 have hb:arB s=true:=by unfold arB; simp [e0,e1,e2,e3,e4,e5,e6,e7,e8,e9,e10]
 have HNB:=Lib.hid (And.intro hn hb)
 clear hn hb
 go_enter Tryz.func30,Tryz.ntmps30
 go_wp2_with fail
 go_ret2
 exact arP_of HNB.out.1 HNB.out.2
set_option maxRecDepth 100000 in
set_option maxHeartbeats 4000000 in
theorem ar_lv {w:World} {LB:Nat} (h:Lvls w LB) {s:ByteArray} (e0:(s.toList == [105,110,116])=false) (e1:(s.toList == [116,114,117,101])=false) (e2:(s.toList == [102,97,108,115,101])=false) (e3:(s.toList == [110,97,109,101])=false) (e4:(s.toList == [110,111,116])=false) (e5:(s.toList == [110,101,103])=false) (e6:(s.toList == [112,114,101])=false) (e7:(s.toList == [105,102])=false) (e8:(s.toList == [99,97,108,108])=false) (e9:(s.toList == [45,62])=false) (e10:(s.toList == [102,98,121])=false):Calls Tryz.prog 30 #[.string s] w (ArP s w):=by
 obtain ⟨A0,A1,A2,A3,A4,c0,c1,c2,c3,c4,h0,h1,h2,h3,h4,r0,r1,r2,r3,r4⟩:=h.ex
 have HR:=Lib.hid (And.intro r0 (And.intro r1 (And.intro r2 (And.intro r3 r4))))
 have HB:=Lib.hid (show arN s=(if inLv s then 2 else 0)∧arB s=inLv s by unfold arN arB; simp [e0,e1,e2,e3,e4,e5,e6,e7,e8,e9,e10])
 clear r0 r1 r2 r3 r4 h
 go_enter Tryz.func30,Tryz.ntmps30
 go_wp2_with fail
 clear e0 e1 e2 e3 e4 e5 e6 e7 e8 e9 e10
 go_loop [24] (fun iv=>ArR s iv) (fun iv=>5-(intOf iv).toNat)
 case atStart=>exact ⟨0,by omega,rfl,fun j h=>by omega⟩
 case round=>
  obtain ⟨k,hk,rfl,hn⟩:=hrel
  have HN:=Lib.hid hn
  clear hn
  obtain ⟨r0,r1,r2,r3,r4⟩:=HR.out
  by_cases hk5:k<5
  ·obtain ⟨bb,hbb⟩:∃ b,decide (0≤idxS s (lvl k))=b:=⟨_,rfl⟩
   clear hk
   match k,hk5,HN with
   | 0,_,HN=>
    have hix:∀ w,(Instr.index 119 (.agg #[.slice A0 2 c0,.slice A1 1 c1,.slice A2 7 c2,.slice A3 2 c3,.slice A4 3 c4]) (.int .i64 0)).run Tryz.prog w = .ok (.slice A0 2 c0) w:=fun _=>by kernel_rfl
    have hcl:2≤1000:=by omega
    have CC:=Lib.hid (show Calls Tryz.prog 58 #[.slice A0 2 c0,.string s] w (fun e w'=>e = .returned (.bool bb)∧w=w') from contains_any (c:=c0) (l:=lvl 0) r0 hcl s hbb)
    cases bb with
    | true=>
     have HD:=Lib.hid (of_decide_eq_true hbb)
     clear hbb
     go_wp2_with fail
     refine CC.out.mono ?_
     rintro e w' ⟨rfl,rfl⟩
     go_wp2_with fail
     go_ret2
     exact arP_of (by rw [HB.out.1,inLv_at (by omega) HD.out]; rfl) (by rw [HB.out.2,inLv_at (by omega) HD.out])
    | false=>
     have HD:=Lib.hid (of_decide_eq_false hbb)
     clear hbb
     go_wp2_with fail
     refine CC.out.mono ?_
     rintro e w' ⟨rfl,rfl⟩
     go_wp2_with fail
     go_round
     case rel=>
      refine ⟨0+1,by omega,by go_num,fun j hj=>?_⟩
      rcases Nat.lt_or_ge j 0 with h | h
      ·exact HN.out j h
      ·obtain rfl:j=0:=by omega
       have h1:=HD.out
       have h2:=idxS_ge s (lvl 0)
       omega
     case measure=>simp [intOf]
   | 1,_,HN=>
    have hix:∀ w,(Instr.index 119 (.agg #[.slice A0 2 c0,.slice A1 1 c1,.slice A2 7 c2,.slice A3 2 c3,.slice A4 3 c4]) (.int .i64 1)).run Tryz.prog w = .ok (.slice A1 1 c1) w:=fun _=>by kernel_rfl
    have hcl:1≤1000:=by omega
    have CC:=Lib.hid (show Calls Tryz.prog 58 #[.slice A1 1 c1,.string s] w (fun e w'=>e = .returned (.bool bb)∧w=w') from contains_any (c:=c1) (l:=lvl 1) r1 hcl s hbb)
    cases bb with
    | true=>
     have HD:=Lib.hid (of_decide_eq_true hbb)
     clear hbb
     go_wp2_with fail
     refine CC.out.mono ?_
     rintro e w' ⟨rfl,rfl⟩
     go_wp2_with fail
     go_ret2
     exact arP_of (by rw [HB.out.1,inLv_at (by omega) HD.out]; rfl) (by rw [HB.out.2,inLv_at (by omega) HD.out])
    | false=>
     have HD:=Lib.hid (of_decide_eq_false hbb)
     clear hbb
     go_wp2_with fail
     refine CC.out.mono ?_
     rintro e w' ⟨rfl,rfl⟩
     go_wp2_with fail
     go_round
     case rel=>
      refine ⟨1+1,by omega,by go_num,fun j hj=>?_⟩
      rcases Nat.lt_or_ge j 1 with h | h
      ·exact HN.out j h
      ·obtain rfl:j=1:=by omega
       have h1:=HD.out
       have h2:=idxS_ge s (lvl 1)
       omega
     case measure=>simp [intOf]
   | 2,_,HN=>
    have hix:∀ w,(Instr.index 119 (.agg #[.slice A0 2 c0,.slice A1 1 c1,.slice A2 7 c2,.slice A3 2 c3,.slice A4 3 c4]) (.int .i64 2)).run Tryz.prog w = .ok (.slice A2 7 c2) w:=fun _=>by kernel_rfl
    have hcl:7≤1000:=by omega
    have CC:=Lib.hid (show Calls Tryz.prog 58 #[.slice A2 7 c2,.string s] w (fun e w'=>e = .returned (.bool bb)∧w=w') from contains_any (c:=c2) (l:=lvl 2) r2 hcl s hbb)
    cases bb with
    | true=>
     have HD:=Lib.hid (of_decide_eq_true hbb)
     clear hbb
     go_wp2_with fail
     refine CC.out.mono ?_
     rintro e w' ⟨rfl,rfl⟩
     go_wp2_with fail
     go_ret2
     exact arP_of (by rw [HB.out.1,inLv_at (by omega) HD.out]; rfl) (by rw [HB.out.2,inLv_at (by omega) HD.out])
    | false=>
     have HD:=Lib.hid (of_decide_eq_false hbb)
     clear hbb
     go_wp2_with fail
     refine CC.out.mono ?_
     rintro e w' ⟨rfl,rfl⟩
     go_wp2_with fail
     go_round
     case rel=>
      refine ⟨2+1,by omega,by go_num,fun j hj=>?_⟩
      rcases Nat.lt_or_ge j 2 with h | h
      ·exact HN.out j h
      ·obtain rfl:j=2:=by omega
       have h1:=HD.out
       have h2:=idxS_ge s (lvl 2)
       omega
     case measure=>simp [intOf]
   | 3,_,HN=>
    have hix:∀ w,(Instr.index 119 (.agg #[.slice A0 2 c0,.slice A1 1 c1,.slice A2 7 c2,.slice A3 2 c3,.slice A4 3 c4]) (.int .i64 3)).run Tryz.prog w = .ok (.slice A3 2 c3) w:=fun _=>by kernel_rfl
    have hcl:2≤1000:=by omega
    have CC:=Lib.hid (show Calls Tryz.prog 58 #[.slice A3 2 c3,.string s] w (fun e w'=>e = .returned (.bool bb)∧w=w') from contains_any (c:=c3) (l:=lvl 3) r3 hcl s hbb)
    cases bb with
    | true=>
     have HD:=Lib.hid (of_decide_eq_true hbb)
     clear hbb
     go_wp2_with fail
     refine CC.out.mono ?_
     rintro e w' ⟨rfl,rfl⟩
     go_wp2_with fail
     go_ret2
     exact arP_of (by rw [HB.out.1,inLv_at (by omega) HD.out]; rfl) (by rw [HB.out.2,inLv_at (by omega) HD.out])
    | false=>
     have HD:=Lib.hid (of_decide_eq_false hbb)
     clear hbb
     go_wp2_with fail
     refine CC.out.mono ?_
     rintro e w' ⟨rfl,rfl⟩
     go_wp2_with fail
     go_round
     case rel=>
      refine ⟨3+1,by omega,by go_num,fun j hj=>?_⟩
      rcases Nat.lt_or_ge j 3 with h | h
      ·exact HN.out j h
      ·obtain rfl:j=3:=by omega
       have h1:=HD.out
       have h2:=idxS_ge s (lvl 3)
       omega
     case measure=>simp [intOf]
   | 4,_,HN=>
    have hix:∀ w,(Instr.index 119 (.agg #[.slice A0 2 c0,.slice A1 1 c1,.slice A2 7 c2,.slice A3 2 c3,.slice A4 3 c4]) (.int .i64 4)).run Tryz.prog w = .ok (.slice A4 3 c4) w:=fun _=>by kernel_rfl
    have hcl:3≤1000:=by omega
    have CC:=Lib.hid (show Calls Tryz.prog 58 #[.slice A4 3 c4,.string s] w (fun e w'=>e = .returned (.bool bb)∧w=w') from contains_any (c:=c4) (l:=lvl 4) r4 hcl s hbb)
    cases bb with
    | true=>
     have HD:=Lib.hid (of_decide_eq_true hbb)
     clear hbb
     go_wp2_with fail
     refine CC.out.mono ?_
     rintro e w' ⟨rfl,rfl⟩
     go_wp2_with fail
     go_ret2
     exact arP_of (by rw [HB.out.1,inLv_at (by omega) HD.out]; rfl) (by rw [HB.out.2,inLv_at (by omega) HD.out])
    | false=>
     have HD:=Lib.hid (of_decide_eq_false hbb)
     clear hbb
     go_wp2_with fail
     refine CC.out.mono ?_
     rintro e w' ⟨rfl,rfl⟩
     go_wp2_with fail
     go_round
     case rel=>
      refine ⟨4+1,by omega,by go_num,fun j hj=>?_⟩
      rcases Nat.lt_or_ge j 4 with h | h
      ·exact HN.out j h
      ·obtain rfl:j=4:=by omega
       have h1:=HD.out
       have h2:=idxS_ge s (lvl 4)
       omega
     case measure=>simp [intOf]
  ·obtain rfl:k=5:=by omega
   clear r0 r1 r2 r3 r4
   go_wp2_with fail
   go_ret2
   exact arP_of (by rw [HB.out.1,inLv_no HN.out]; rfl) (by rw [HB.out.2,inLv_no HN.out])
theorem arity_any {w:World} {LB:Nat} (h:Lvls w LB) (s:ByteArray):Calls Tryz.prog 30 #[.string s] w (ArP s w):=by
 cases e0:(s.toList == [105,110,116]) with
 | true=>exact ar_0 e0
 | false=>
 cases e1:(s.toList == [116,114,117,101]) with
 | true=>exact ar_1 e0 e1
 | false=>
 cases e2:(s.toList == [102,97,108,115,101]) with
 | true=>exact ar_2 e0 e1 e2
 | false=>
 cases e3:(s.toList == [110,97,109,101]) with
 | true=>exact ar_3 e0 e1 e2 e3
 | false=>
 cases e4:(s.toList == [110,111,116]) with
 | true=>exact ar_4 e0 e1 e2 e3 e4
 | false=>
 cases e5:(s.toList == [110,101,103]) with
 | true=>exact ar_5 e0 e1 e2 e3 e4 e5
 | false=>
 cases e6:(s.toList == [112,114,101]) with
 | true=>exact ar_6 e0 e1 e2 e3 e4 e5 e6
 | false=>
 cases e7:(s.toList == [105,102]) with
 | true=>exact ar_7 e0 e1 e2 e3 e4 e5 e6 e7
 | false=>
 cases e8:(s.toList == [99,97,108,108]) with
 | true=>exact ar_8 e0 e1 e2 e3 e4 e5 e6 e7 e8
 | false=>
 cases e9:(s.toList == [45,62]) with
 | true=>exact ar_9 e0 e1 e2 e3 e4 e5 e6 e7 e8 e9
 | false=>
 cases e10:(s.toList == [102,98,121]) with
 | true=>exact ar_10 e0 e1 e2 e3 e4 e5 e6 e7 e8 e9 e10
 | false=>
 exact ar_lv h e0 e1 e2 e3 e4 e5 e6 e7 e8 e9 e10
end Go.Proofs.YthkhfbofhdfdoaaGreatDoor
namespace Go.Proofs.YthkhfbofhdfdoaaGreatDoor
open Go.RowKit
def Lens (w:World) (A:Option Addr) (lens:List Nat):Prop:=
 ∃ ad,A=some ad∧∀ i n,lens[i]? = some n→∃ Ai ci,w.cell? (ad.add i)=some (.slice Ai n ci)
theorem many_any {w:World} {bx:Nat} {ad:Addr} {n c i k m:Nat} {Ai:Option Addr} {ci:Nat} (hb:w.cell? ⟨bx,0,none⟩=some (.slice (some ad) n c)) (hi:i<n) (_hn:n≤1000) (hc:w.cell? (ad.add i)=some (.slice Ai m ci)) {b:Bool} (hbb:((m:Int) == (k:Int))=b) :
  Calls Tryz.prog 31 #[.int .i64 (i:Nat),.int .i64 (k:Nat),.pointer (some ⟨bx,0,none⟩)] w fun e w'=>e = .returned (.bool b)∧w=w':=by
 have h1:(i:Int)<(n:Int):=by omega
 go_enter Tryz.func31,Tryz.ntmps31
 go_wp2
 go_ret
 exact ⟨rfl,rfl⟩
theorem some_any {w:World} {bx bm:Nat} {ad:Addr} {n c i m:Nat} {Ai:Option Addr} {ci:Nat} (hm:w.cell? ⟨bm,0,none⟩=some (.func (.func 31) #[] #[.pointer (some ⟨bx,0,none⟩)])) (hb:w.cell? ⟨bx,0,none⟩=some (.slice (some ad) n c)) (hi:i<n) (hn:n≤1000) (hc:w.cell? (ad.add i)=some (.slice Ai m ci))
  {b1 b8:Bool} (hb1:((m:Int) == ((1:Nat):Int))=b1) (hb8:((m:Int) == ((8:Nat):Int))=b8) :
  Calls Tryz.prog 32 #[.int .i64 (i:Nat),.pointer (some ⟨bm,0,none⟩)] w fun e w'=>e = .returned (.bool (b1||b8))∧w=w':=by
 have C1:=Lib.hid (many_any (k:=1) hb hi hn hc hb1)
 have C8:=Lib.hid (many_any (k:=8) hb hi hn hc hb8)
 clear hb hi hn hc hb1 hb8
 cases b1 with
 | true=>
  go_enter Tryz.func32,Tryz.ntmps32
  go_wp2_with fail
  refine C1.out.mono ?_
  rintro e w' ⟨rfl,rfl⟩
  go_wp2
  go_ret
  exact ⟨rfl,rfl⟩
 | false=>
  go_enter Tryz.func32,Tryz.ntmps32
  go_wp2_with fail
  refine C1.out.mono ?_
  rintro e w' ⟨rfl,rfl⟩
  go_wp2_with fail
  refine C8.out.mono ?_
  rintro e w' ⟨rfl,rfl⟩
  go_wp2
  go_ret
  exact ⟨by cases b8 <;> rfl,rfl⟩
def ShP (w:World) (b:Bool) (e:Ending) (w':World):Prop:=e = .returned (.bool b)∧Below w.heap.size w w'
set_option maxRecDepth 100000 in
set_option maxHeartbeats 4000000 in
theorem shape_two {w:World} {LB:Nat} (hL:Lvls w LB) (hLB:LB≤w.heap.size) {A:Option Addr} {c n0 n1:Nat} (h:Lens w A [n0,n1]) {s:ByteArray} (hn:arN s=2) (hb:arB s=true)
  (e1:(s.toList == [112,114,101])=false) (e2:(s.toList == [45,62])=false) (e3:(s.toList == [102,98,121])=false) (e4:(s.toList == [110,111,116])=false) (e5:(s.toList == [110,101,103])=false) (e6:(s.toList == [105,102])=false)
  (e7:(s.toList == [61])=false) (e8:(s.toList == [60,62])=false) (e9:(s.toList == [97,110,100])=false) (e10:(s.toList == [111,114])=false) (e11:(s.toList == [120,111,114])=false) (e12:(s.toList == [61,62])=false)
  {b0 b1:Bool} (hb0:((n0:Int) == ((8:Nat):Int))=b0) (hb1:((n1:Int) == ((8:Nat):Int))=b1) :
  Calls Tryz.prog 13 #[.string s,.slice A 2 c] w (ShP w (b0&&b1)):=by
 obtain ⟨ad,rfl,hcell⟩:=h
 obtain ⟨Ai,ci,h0⟩:=hcell 0 n0 rfl
 obtain ⟨Aj,cj,h1⟩:=hcell 1 n1 rfl
 have hbw:Below w.heap.size w (w.alloc (.cells #[.slice (some ad) 2 c] 36)):=(Below.refl _ _).alloc (Nat.le_refl _) _
 obtain ⟨W1,hW1⟩:∃ W1,W1=(w.alloc (.cells #[.slice (some ad) 2 c] 36)).alloc (.cells #[.func (.func 31) #[] #[.pointer (some ⟨w.heap.size,0,none⟩)]] 82):=⟨_,rfl⟩
 have hb1':Below w.heap.size w W1:=by rw [hW1]; exact hbw.alloc (by simp) _
 have hbx:W1.cell? ⟨w.heap.size,0,none⟩=some (.slice (some ad) 2 c):=by rw [hW1]; exact ((Blk.new w _ _).alloc _).cell 0
 have CM0:=Lib.hid (show Calls Tryz.prog 31 #[.int .i64 0,.int .i64 8,.pointer (some ⟨w.heap.size,0,none⟩)] W1 (fun e w'=>e = .returned (.bool b0)∧W1=w') from many_any (i:=0) (k:=8) hbx (by omega) (by omega) ((hb1'.cell (World.block_lt_of_cell? _ _ h0)).trans h0) hb0)
 have CM1:=Lib.hid (show Calls Tryz.prog 31 #[.int .i64 1,.int .i64 8,.pointer (some ⟨w.heap.size,0,none⟩)] W1 (fun e w'=>e = .returned (.bool b1)∧W1=w') from many_any (i:=1) (k:=8) hbx (by omega) (by omega) ((hb1'.cell (World.block_lt_of_cell? _ _ h1)).trans h1) hb1)
 have HW1:=Lib.hid hW1
 have HB1:=Lib.hid hb1'
 have cm:W1.cell? ⟨w.heap.size+1,0,none⟩=some (.func (.func 31) #[] #[.pointer (some ⟨w.heap.size,0,none⟩)]):=by
  rw [hW1]
  simp
 have HCM:=Lib.hid cm
 have CA:=Lib.hid (arity_any (hL.below hbw hLB) s)
 have HNB:=Lib.hid (And.intro hn hb)
 have HB01:=Lib.hid (And.intro hb0 hb1)
 have HC:=Lib.hid (And.intro h0 h1)
 clear hL hcell h0 h1 hn hb hb0 hb1 hbw hbx hW1 hb1' cm
 have hmf:∀ (fn:Fn) (first cap:Array Value) (w:World),(Instr.makeFunc fn first cap).run Tryz.prog w = .ok (.func fn first cap) w:=fun _ _ _ _=>rfl
 go_enter Tryz.func13,Tryz.ntmps13
 go_wp2_with fail
 refine CA.out.mono ?_
 rintro e w' ⟨rfl,rfl⟩
 rw [HNB.out.1,HNB.out.2]
 go_wp2_with fail
 rw [← HW1.out]
 refine CM0.out.mono ?_
 rintro e w' ⟨rfl,rfl⟩
 have cm:=HCM.out
 cases b0 with
 | false=>
  go_wp2_with fail
  go_ret
  exact ⟨rfl,HB1.out⟩
 | true=>
  go_wp2_with fail
  refine CM1.out.mono ?_
  rintro e w' ⟨rfl,rfl⟩
  go_wp2_with fail
  go_ret
  exact ⟨by cases b1 <;> rfl,HB1.out⟩
end Go.Proofs.YthkhfbofhdfdoaaGreatDoor
namespace Go.Proofs.YthkhfbofhdfdoaaGreatDoor
open Go.RowKit
theorem of_idle (p q r:Addr) (w:World) :
  CallsD Tryz.prog 15 #[.pointer (some p),.pointer (some q),.pointer (some r)] .returning w fun e u' w'=>e = .returned (.tuple #[])∧u' = .returning∧w'=w:=by
 refine callsD_of_wpS Tryz.func15 rfl fun c₀ cs hu=>?_
 apply wpS_seq
 apply wpS_region
 simp [wpOpsS,go_sem,recoverD,hu,Tryz.ntmps15,Exit.thenS]
 refine wpS_of_wp ?_
 go_wp2
 cases c₀
 simp_all [bodyPostS,results,Tryz.results15]
end Go.Proofs.YthkhfbofhdfdoaaGreatDoor
