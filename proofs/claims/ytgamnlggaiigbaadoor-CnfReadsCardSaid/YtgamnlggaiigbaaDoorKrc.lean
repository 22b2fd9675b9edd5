/-
  THE CARD of the law CnfReads: for every input the law answers true, and what it was handed reads as before; the listed package-level variables are tied to the program's text by the given tie. Condition: none beyond the given row's own cells.
-/
import Derived.Test.YtgamnlggaiigbaaDoorKra
import Derived.Test.YtgamnlggaiigbaaDoorSk
import Derived.Lay
import Derived.MakeChecks
namespace Go.Proofs.YtgamnlggaiigbaaDoor.cnfReads
open Go.ChangeShapes Go.WideShapes Go.ChangeAt Go.RowKit
set_option maxRecDepth 100000

theorem k1 : Rows.cnfReadsRow.wf (OpenSpec.ofChange Rows.cnfReadsSpec) = true := by kernel_rfl
theorem k4 : (Tryd.f3.params.all (Tryd.prog.readableRec ·)) = true := by kernel_rfl
theorem k5 : namedTie Tryd.prog Rows.cnfReadsRow.named Rows.cnfReadsSpec.vars = true := by kernel_rfl
theorem k10 : (Rows.cnfReadsRow.inPlace == Tryd.prog.inPlace 3) = true := by kernel_rfl
theorem k11 : (Rows.cnfReadsRow.unfollowed == Tryd.prog.unfollowed 3) = true := by kernel_rfl
theorem k12 : (Rows.cnfReadsRow.recurses == Tryd.prog.recurses 3) = true := by kernel_rfl
theorem k13 : (Rows.cnfReadsRow.named == Tryd.prog.varsNamed 3) = true := by kernel_rfl
theorem types : Tryd.f3.params.toList ++ Rows.cnfReadsSpec.plain.varTypes Tryd.prog = Tryd.f3.params.toList := by kernel_rfl
theorem k14 : (Rows.cnfReadsRow.maps == Tryd.f3.params.toList.any (Tryd.prog.mapsRec ·)) = true := by kernel_rfl
theorem k15 : (Rows.cnfReadsRow.ifaces == Tryd.f3.params.toList.any (Tryd.prog.ifacesRec ·)) = true := by kernel_rfl
theorem k16 : (Rows.cnfReadsRow.mapsOut == Tryd.prog.mapsAmong Tryd.f3.resultTypes.toList) = true := by kernel_rfl
theorem k17 : (Rows.cnfReadsRow.loops == Tryd.f3.params.toList.any (Tryd.prog.loopsFrom ·)) = true := by kernel_rfl
theorem k17b : (Rows.cnfReadsRow.wideKeys == (Tryd.f3.params.toList ++ Tryd.f3.resultTypes.toList).any (Tryd.prog.wideKeysFrom ·)) = true := by kernel_rfl
theorem k18 : Rows.cnfReadsSpec.vars.all (Tryd.prog.varReadable ·) = true := by kernel_rfl
theorem k19 : (Tryd.f3.resultTypes.all fun t => Tryd.prog.readableRec t && decide (t < Tryd.prog.types.size)) = true := by kernel_rfl
theorem k20 : (Rows.cnfReadsRow.ifacesOut == Tryd.f3.resultTypes.toList.any (Tryd.prog.ifacesRec ·)) = true := by kernel_rfl
theorem k21 : (Rows.cnfReadsRow.loopsOut == Tryd.f3.resultTypes.toList.any (Tryd.prog.loopsFrom ·)) = true := by kernel_rfl
theorem k25 : (Rows.cnfReadsRow.kinds == (if Rows.cnfReadsRow.domain.isEmpty then [] else Tryd.f3.params.toList.map fun t => match Tryd.prog.underlying t with | some (.int k) => some k | _ => none)) = true := by kernel_rfl
theorem k26 : (Rows.cnfReadsRow.pinned == Rows.cnfReadsRow.pinnedBy) = true := by kernel_rfl
theorem k27 : (Rows.cnfReadsRow.veiled == (Tryd.f3.params.toList ++ Tryd.f3.resultTypes.toList).any (Tryd.prog.veiledRec ·)) = true := by kernel_rfl
theorem k28 : Rows.cnfReadsRow.veiledFits Tryd.prog Tryd.f3.params.toList (Tryd.f3.params.toList ++ Tryd.f3.resultTypes.toList) = true := by kernel_rfl
set_option maxRecDepth 100000 in
theorem closed : joinedFacts Tryd.prog 3 Tryd.f3 Rows.cnfReadsSpec Rows.cnfReadsRow = true :=
  joined_of types k1 laidOut sf.mapsRowed_ k4 k5 rfl sf.stops_ rfl sf.knobs_ k10 k11 k12 k13 k14 k15 k16 k17 k17b k18 k19 k20 k21 sf.plainKeys_ rfl sf.heard_ sf.enters_ sf.lifts_ sf.make_ k25 k26 k27 k28
theorem named_f : Tryd.prog.funcNamed "lustrum/lustrumlaw3.CnfReads" = some 3 := by kernel_rfl
theorem apart_ : Tryd.f3.isInstance Tryd.prog Rows.cnfReadsRow.origin Rows.cnfReadsRow.targs := of_decide_eq_true (by kernel_rfl)
theorem wrapper_ : Tryd.f3.isWrapper Tryd.prog Rows.cnfReadsRow.wrapper Rows.cnfReadsRow.mainSum := by unfold Func.isWrapper; first | (rw [if_pos (by decide +kernel)]; kernel_rfl) | (rw [if_neg (by decide +kernel)]; exact ⟨rfl, rfl⟩)

theorem looks (f : FuncId) (fn : Func) (hf : Tryd.pinned.checked.prog.funcNamed "lustrum/lustrumlaw3.CnfReads" = some f) (hfn : Tryd.pinned.checked.prog.funcs[f]? = some fn) :
    true = Tryd.pinned.checked.prog.looks [] ∧ ∀ (j : Nat) t, fn.params[j]? = some t → Tryd.pinned.checked.prog.wantsStandIn t = false := by
  obtain rfl : f = 3 := Option.some.inj (named_f.symm.trans hf) |>.symm
  obtain rfl : fn = Tryd.f3 := (Option.some.inj (Tryd.func3.symm.trans hfn)).symm
  refine ⟨sf.looks_, fun j t ht => ?_⟩
  have hm : t ∈ Tryd.f3.params.toList := Array.mem_toList_iff.2 (Array.mem_of_getElem? ht)
  have ha : (Tryd.f3.params.toList.all fun t => !Tryd.prog.wantsStandIn t) = true := by kernel_rfl
  have h1 := List.all_eq_true.1 ha t hm
  have h2 : Tryd.prog.wantsStandIn t = false := by simpa using h1
  exact h2
theorem pars : ∀ t ∈ Tryd.f3.params.toList, Tryd.prog.readableRec t = true ∧ t < Tryd.prog.types.size := fun t ht => by
  have ha : (Tryd.f3.params.toList.all fun t => Tryd.prog.readableRec t && decide (t < Tryd.prog.types.size)) = true := by kernel_rfl
  have := List.all_eq_true.1 ha t ht
  simpa using this
set_option maxRecDepth 100000 in
theorem contract (H : Type) (enc : TypeId × Value → H) (W : World) (base : Nat) (args : Array Value) (ds gs : List (DataW H)) (before : List MemPlace)
    (hval : ∀ (j : Nat) t v, Tryd.f3.params[j]? = some t → args[j]? = some v → Value.okWide Tryd.prog W .any base t v)
    (hW : DataW.Whole enc Tryd.prog Tryd.f3.params.toList Rows.cnfReadsSpec.vars false W args.toList ds gs before) (hL : laidMetH Tryd.prog Rows.cnfReadsRow.laid W) (hsh : W.ShapedOpen Tryd.prog) :
    Calls Tryd.prog 3 args W fun e W' => ∃ v, e = .returned v ∧ Rows.cnfReadsSpec.post enc Tryd.prog Tryd.f3 false true false false W args v W' :=
  (calls H enc W base args ds gs before hval hW hL hsh).mono fun e W' h => ⟨.bool true, h.1, post_true laidOut pars rfl rfl Tryd.underlying4 (fun ds hd => by
    match ds, hd with
    | [d], _ => rfl) hW h.2⟩
noncomputable def wArgs : Array Value := #[.string ⟨#[]⟩]
theorem met (os : Os) (args : Array Value) : laidMetH Tryd.prog Rows.cnfReadsRow.laid ((World.laidAll Tryd.prog os Rows.cnfReadsRow.laid).forCall (fun _ _ => 0) ⟨#[], args, []⟩).memory :=
  by rw [MakeChecks.laidMetH_plain _ _ _ (by kernel_rfl)]; exact laidMet_laidAll _ (by kernel_rfl) (by kernel_rfl)
theorem reads (os : Os) {H : Type} (enc : TypeId × Value → H) : ∃ ds places, DataW.whole enc Tryd.prog ((World.laidAll Tryd.prog os Rows.cnfReadsRow.laid).forCall (fun _ _ => 0) ⟨#[], wArgs, []⟩).memory Tryd.f3.params.toList Rows.cnfReadsSpec.vars false wArgs.toList 8 = some (ds, [], places) :=
  ⟨[.lit (.string [])], [], by kernel_rfl⟩
set_option maxRecDepth 100000 in
theorem lifted (os : Os) (started : os.Started) (H : Type) (enc : TypeId × Value → H) (F : Stop.Interp) :
    ReturnsInHanded {} Tryd.checked os 3 .any ((OpenSpec.ofChange Rows.cnfReadsSpec).preRow enc Tryd.prog Tryd.f3 Rows.cnfReadsRow.domain false Rows.cnfReadsRow.laid) (((OpenSpec.ofChange Rows.cnfReadsSpec).at F).post enc Tryd.prog Tryd.f3 false true false false) := by
  obtain ⟨ds, places, hx⟩ := reads os enc
  refine returnsInHanded_of_row (C := Tryd.checked) (s := OpenSpec.ofChange Rows.cnfReadsSpec) own started (by kernel_rfl) Tryd.func3
    (witness_row_atRef (enc := enc) (C := Tryd.checked) false (World.laidAll Tryd.prog os Rows.cnfReadsRow.laid) wArgs (World.laidAll_os _ _ _) (by kernel_rfl) (by kernel_rfl) (by kernel_rfl)
      (OpenSpec.preRow_of_cond 8 hx (by kernel_rfl) (fun k hk => by cases hk) (by kernel_rfl) (met os wArgs))) ?_
  intro W base args ds gs before hval hW _ _ _ hL hsh _
  exact contract H enc W base args ds gs before hval hW hL hsh
theorem said : Rows.CnfReadsSaid :=
  OpenClaim.holds_of_cond 3 Tryd.f3 rfl rfl rfl rfl rfl rfl rfl ⟨rfl, rfl, rfl, rfl, rfl⟩ rfl rfl rfl rfl rfl named_f Tryd.func3 closed apart_ wrapper_
    (fun os started H enc _ F => by rw [OpenClaim.pre_eq_preRow]; exact lifted os started H enc F)
theorem t1 : Rows.cnfReadsRow.wfByText (OpenSpec.ofChange Rows.cnfReadsSpec) = true := by kernel_rfl
theorem t2 : Tryd.pinned.checked.prog.mainIs = some (Rows.cnfReadsCard.stood.harness.1, Rows.cnfReadsCard.stood.harness.2.toList) := by kernel_rfl
theorem t3 : false = Rows.cnfReadsRow.goesBy Tryd.pinned.checked.prog := by kernel_rfl
/-- THE CARD -/
theorem card : Rows.CnfReadsCardSaid :=
  Claim7.holds_tied_plain_at .later [] _ _ _ _ said (fun _ h => by cases h) t1 (fun _ h => by cases h) cnfReads_row_tie rfl ⟨rfl, rfl⟩ t2 rfl looks t3
end Go.Proofs.YtgamnlggaiigbaaDoor.cnfReads
namespace Go.Proofs.YtgamnlggaiigbaaDoor
/-- for every input the law CnfReads answers true -/
theorem cnfReads_holds : Rows.CnfReadsCardSaid := cnfReads.card
end Go.Proofs.YtgamnlggaiigbaaDoor
