/- THE CARD of the law WordSums: for every input the law answers true, and what it was handed reads as before; the listed package-level variables are tied to the program's text by the given tie. Condition: none beyond the given row's own cells. -/
import Derived.Test.YthkhfbofhdfdoaaGreatDoorWs
import Derived.Test.YthkhfbofhdfdoaaGreatDoorLn
import Derived.Test.YthkhfbofhdfdoaaGreatDoorSk
import Derived.ChangeMaps5
namespace Go.Proofs.YthkhfbofhdfdoaaGreatDoor.wordSums
open Go.ChangeShapes Go.WideShapes Go.ChangeAt Go.RowKit
set_option maxRecDepth 100000
set_option maxRecDepth 100000 in
theorem calls (H:Type) (enc:TypeId×Value→H) (W:World) (base:Nat) (args:Array Value) (ds gs:List (DataW H)) (before:List MemPlace)
  (hval:∀ (j:Nat) t v,Tryz.f3.params[j]? = some t→args[j]? = some v→Value.okWide Tryz.prog W .any base t v)
  (hW:DataW.Whole enc Tryz.prog Tryz.f3.params.toList Rows.wordSumsSpec.vars false W args.toList ds gs before) (hL:laidMetH Tryz.prog Rows.wordSumsRow.laid W) :
  Calls Tryz.prog 3 args W (slv.HoP W):=by
 obtain ⟨p,q,hA0,hV,rfl,hfz,hnd⟩:=hW
 have hA:DataW.TrodAll enc Tryz.prog W 0 (fun _=>true) true Tryz.f3.params.toList args.toList ds p:=hA0
 rw [Tryz.params3] at hA hval
 obtain ⟨v0,vs0,d0,ds0,p0,q0,hargs,rfl,rfl,h0,r0⟩:=trodAll_cons hA
 obtain ⟨v1,vs1,d1,ds1,p1,q1,rfl,rfl,rfl,h1,r1⟩:=trodAll_cons r0
 obtain ⟨rfl,rfl,rfl⟩:=trodAll_nil r1
 obtain rfl:args = #[v0,v1]:=by cases args; simp_all
 obtain ⟨s,rfl,rfl,rfl,hs⟩:=ChangeMaps.open_string Tryz.underlying9 (hval 0 9 v0 rfl rfl) h0
 obtain ⟨s1,rfl,rfl,rfl,hs1⟩:=ChangeMaps.open_string Tryz.underlying9 (hval 1 9 v1 rfl rfl) h1
 obtain ⟨ea,hes⟩:=sen_of_laid hL fun x hx=>by
  rcases List.mem_cons.1 hx with e | hx
  ·rw [e]; exact List.mem_of_getElem? (i:=0) rfl
  ·rcases List.mem_cons.1 hx with e | hx
   ·rw [e]; exact List.mem_of_getElem? (i:=1) rfl
   ·rw [List.mem_singleton.1 hx]; exact List.mem_of_getElem? (i:=2) rfl
 exact sums_any hes (lvls_of_laid hL (List.mem_of_getElem? (i:=4) rfl)) (Nat.le_refl _) s s1
theorem k1:Rows.wordSumsRow.wf (OpenSpec.ofChange Rows.wordSumsSpec)=true:=by kernel_rfl
theorem k4:(Tryz.f3.params.all (Tryz.prog.readableRec ·))=true:=by kernel_rfl
theorem k5:namedTie Tryz.prog Rows.wordSumsRow.named Rows.wordSumsSpec.vars=true:=by kernel_rfl
theorem k10:(Rows.wordSumsRow.inPlace == Tryz.prog.inPlace 3)=true:=by kernel_rfl
theorem k11:(Rows.wordSumsRow.unfollowed == Tryz.prog.unfollowed 3)=true:=by kernel_rfl
theorem k12:(Rows.wordSumsRow.recurses == Tryz.prog.recurses 3)=true:=by kernel_rfl
theorem k13:(Rows.wordSumsRow.named == Tryz.prog.varsNamed 3)=true:=by kernel_rfl
theorem types:Tryz.f3.params.toList++Rows.wordSumsSpec.plain.varTypes Tryz.prog=Tryz.f3.params.toList:=by kernel_rfl
theorem k14:(Rows.wordSumsRow.maps == Tryz.f3.params.toList.any (Tryz.prog.mapsRec ·))=true:=by kernel_rfl
theorem k15:(Rows.wordSumsRow.ifaces == Tryz.f3.params.toList.any (Tryz.prog.ifacesRec ·))=true:=by kernel_rfl
theorem k16:(Rows.wordSumsRow.mapsOut == Tryz.prog.mapsAmong Tryz.f3.resultTypes.toList)=true:=by kernel_rfl
theorem k17:(Rows.wordSumsRow.loops == Tryz.f3.params.toList.any (Tryz.prog.loopsFrom ·))=true:=by kernel_rfl
theorem k17b:(Rows.wordSumsRow.wideKeys == (Tryz.f3.params.toList++Tryz.f3.resultTypes.toList).any (Tryz.prog.wideKeysFrom ·))=true:=by kernel_rfl
theorem k18:Rows.wordSumsSpec.vars.all (Tryz.prog.varReadable ·)=true:=by kernel_rfl
theorem k19:(Tryz.f3.resultTypes.all fun t=>Tryz.prog.readableRec t&&decide (t<Tryz.prog.types.size))=true:=by kernel_rfl
theorem k20:(Rows.wordSumsRow.ifacesOut == Tryz.f3.resultTypes.toList.any (Tryz.prog.ifacesRec ·))=true:=by kernel_rfl
theorem k21:(Rows.wordSumsRow.loopsOut == Tryz.f3.resultTypes.toList.any (Tryz.prog.loopsFrom ·))=true:=by kernel_rfl
theorem k25:(Rows.wordSumsRow.kinds == (if Rows.wordSumsRow.domain.isEmpty then [] else Tryz.f3.params.toList.map fun t=>match Tryz.prog.underlying t with | some (.int k)=>some k | _=>none))=true:=by kernel_rfl
theorem k26:(Rows.wordSumsRow.pinned == Rows.wordSumsRow.pinnedBy)=true:=by kernel_rfl
theorem k27:(Rows.wordSumsRow.veiled == (Tryz.f3.params.toList++Tryz.f3.resultTypes.toList).any (Tryz.prog.veiledRec ·))=true:=by kernel_rfl
theorem k28:Rows.wordSumsRow.veiledFits Tryz.prog Tryz.f3.params.toList (Tryz.f3.params.toList++Tryz.f3.resultTypes.toList)=true:=by kernel_rfl
set_option maxRecDepth 100000 in
theorem closed:joinedFacts Tryz.prog 3 Tryz.f3 Rows.wordSumsSpec Rows.wordSumsRow=true:=
 joined_of types k1 laidOut sf.mapsRowed_ k4 k5 rfl sf.stops_ rfl sf.knobs_ k10 k11 k12 k13 k14 k15 k16 k17 k17b k18 k19 k20 k21 sf.plainKeys_ rfl sf.heard_ sf.enters_ sf.lifts_ sf.make_ k25 k26 k27 k28
theorem named_f:Tryz.prog.funcNamed "lustrum/lustrumlaw3.WordSums" = some 3:=by kernel_rfl
theorem apart_:Tryz.f3.isInstance Tryz.prog Rows.wordSumsRow.origin Rows.wordSumsRow.targs:=of_decide_eq_true (by kernel_rfl)
theorem wrapper_:Tryz.f3.isWrapper Tryz.prog Rows.wordSumsRow.wrapper Rows.wordSumsRow.mainSum:=by unfold Func.isWrapper; first | (rw [if_pos (by decide +kernel)]; kernel_rfl) | (rw [if_neg (by decide +kernel)]; exact ⟨rfl,rfl⟩)
theorem looks (f:FuncId) (fn:Func) (hf:Tryz.pinned.checked.prog.funcNamed "lustrum/lustrumlaw3.WordSums" = some f) (hfn:Tryz.pinned.checked.prog.funcs[f]? = some fn) :
  true=Tryz.pinned.checked.prog.looks []∧∀ (j:Nat) t,fn.params[j]? = some t→Tryz.pinned.checked.prog.wantsStandIn t=false:=by
 obtain rfl:f=3:=Option.some.inj (named_f.symm.trans hf) |>.symm
 obtain rfl:fn=Tryz.f3:=(Option.some.inj (Tryz.func3.symm.trans hfn)).symm
 refine ⟨sf.looks_,fun j t ht=>?_⟩
 have hm:t∈Tryz.f3.params.toList:=Array.mem_toList_iff.2 (Array.mem_of_getElem? ht)
 have ha:(Tryz.f3.params.toList.all fun t => !Tryz.prog.wantsStandIn t)=true:=by kernel_rfl
 have h1:=List.all_eq_true.1 ha t hm
 have h2:Tryz.prog.wantsStandIn t=false:=by simpa using h1
 exact h2
theorem pars:∀ t∈Tryz.f3.params.toList,Tryz.prog.readableRec t=true∧t<Tryz.prog.types.size:=fun t ht=>by
 have ha:(Tryz.f3.params.toList.all fun t=>Tryz.prog.readableRec t&&decide (t<Tryz.prog.types.size))=true:=by kernel_rfl
 have:=List.all_eq_true.1 ha t ht
 simpa using this
set_option maxRecDepth 100000 in
theorem contract (H:Type) (enc:TypeId×Value→H) (W:World) (base:Nat) (args:Array Value) (ds gs:List (DataW H)) (before:List MemPlace)
  (hval:∀ (j:Nat) t v,Tryz.f3.params[j]? = some t→args[j]? = some v→Value.okWide Tryz.prog W .any base t v)
  (hW:DataW.Whole enc Tryz.prog Tryz.f3.params.toList Rows.wordSumsSpec.vars false W args.toList ds gs before) (hL:laidMetH Tryz.prog Rows.wordSumsRow.laid W) :
  Calls Tryz.prog 3 args W fun e W'=>∃ v,e = .returned v∧Rows.wordSumsSpec.post enc Tryz.prog Tryz.f3 false true false false W args v W':=
 (calls H enc W base args ds gs before hval hW hL).mono fun e W' h=>⟨.bool true,h.1,post_true laidOut pars rfl rfl Tryz.underlying4 (fun ds hd=>by
  match ds,hd with
  | [d1,d2],_=>rfl) hW h.2⟩
noncomputable def wArgs:Array Value:=#[.string ⟨#[]⟩,.string ⟨#[]⟩]
theorem met (os:Os) (args:Array Value):laidMetH Tryz.prog Rows.wordSumsRow.laid ((World.doorLaid Tryz.prog 260 os).forCall (fun _ _=>0) ⟨#[],args,[]⟩).memory:=
 laidMetH_of_parts (laidMet_of_run' 8 (by kernel_rfl) (by kernel_rfl)) (by kernel_rfl)
theorem reads (os:Os) {H:Type} (enc:TypeId×Value→H):∃ ds places,DataW.whole enc Tryz.prog ((World.doorLaid Tryz.prog 260 os).forCall (fun _ _=>0) ⟨#[],wArgs,[]⟩).memory Tryz.f3.params.toList Rows.wordSumsSpec.vars false wArgs.toList 8=some (ds,[],places):=
 ⟨[.lit (.string []),.lit (.string [])],[],by kernel_rfl⟩
set_option maxRecDepth 100000 in
theorem lifted (os:Os) (started:os.Started) (H:Type) (enc:TypeId×Value→H) (F:Stop.Interp) :
  ReturnsInHanded {} Tryz.checked os 3 .any ((OpenSpec.ofChange Rows.wordSumsSpec).preRow enc Tryz.prog Tryz.f3 Rows.wordSumsRow.domain false Rows.wordSumsRow.laid) (((OpenSpec.ofChange Rows.wordSumsSpec).at F).post enc Tryz.prog Tryz.f3 false true false false):=by
 obtain ⟨ds,places,hx⟩:=reads os enc
 refine returnsInHanded_of_row (C:=Tryz.checked) (s:=OpenSpec.ofChange Rows.wordSumsSpec) own started (by kernel_rfl) Tryz.func3
  (witness_row_atRef (enc:=enc) (C:=Tryz.checked) false (World.doorLaid Tryz.prog 260 os) wArgs rfl (by kernel_rfl) (by kernel_rfl) (by kernel_rfl)
   (OpenSpec.preRow_of_cond 8 hx (by kernel_rfl) (fun k hk=>by cases hk) (by kernel_rfl) (met os wArgs))) ?_
 intro W base args ds gs before hval hW _ _ _ hL _ _
 exact contract H enc W base args ds gs before hval hW hL
theorem said:Rows.WordSumsSaid:=
 OpenClaim.holds_of_cond 3 Tryz.f3 rfl rfl rfl rfl rfl rfl rfl ⟨rfl,rfl,rfl,rfl,rfl⟩ rfl rfl rfl rfl rfl named_f Tryz.func3 closed apart_ wrapper_
  (fun os started H enc _ F=>by rw [OpenClaim.pre_eq_preRow]; exact lifted os started H enc F)
theorem t1:Rows.wordSumsRow.wfByText (OpenSpec.ofChange Rows.wordSumsSpec)=true:=by kernel_rfl
theorem t2:Tryz.pinned.checked.prog.mainIs=some (Rows.wordSumsCard.stood.harness.1,Rows.wordSumsCard.stood.harness.2.toList):=by kernel_rfl
theorem t3:false=Rows.wordSumsRow.goesBy Tryz.pinned.checked.prog:=by kernel_rfl
theorem card:Rows.WordSumsCardSaid:=
 Claim7.holds_tied_plain_at .later [] _ _ _ _ said (fun _ h=>by cases h) t1 (fun _ h=>by cases h) wordSums_row_tie rfl ⟨rfl,rfl⟩ t2 rfl looks t3
end Go.Proofs.YthkhfbofhdfdoaaGreatDoor.wordSums
namespace Go.Proofs.YthkhfbofhdfdoaaGreatDoor
theorem wordSums_holds:Rows.WordSumsCardSaid:=wordSums.card
end Go.Proofs.YthkhfbofhdfdoaaGreatDoor
