/-
  THE CARD of the law WordShapes: for every input the law answers true, and what it was handed reads as before; the listed package-level variables are tied to the program's text by the given tie. Condition: none beyond the given row's own cells.
-/
import Derived.Test.YtmbjhpgemphmmaaDoorKna
import Derived.Test.YtmbjhpgemphmmaaDoorSf
namespace Go.Proofs.YtmbjhpgemphmmaaDoor.wordShapes
open Go.ChangeShapes Go.WideShapes Go.ChangeAt Go.RowKit
set_option maxRecDepth 100000

theorem k1 : Rows.wordShapesRow.wf (OpenSpec.ofChange Rows.wordShapesSpec) = true := by kernel_rfl
theorem k4 : (Tryd.f5.params.all (Tryd.prog.readableRec ·)) = true := by kernel_rfl
theorem k5 : namedTie Tryd.prog Rows.wordShapesRow.named Rows.wordShapesSpec.vars = true := by kernel_rfl
theorem k10 : (Rows.wordShapesRow.inPlace == Tryd.prog.inPlace 5) = true := by kernel_rfl
theorem k11 : (Rows.wordShapesRow.unfollowed == Tryd.prog.unfollowed 5) = true := by kernel_rfl
theorem k12 : (Rows.wordShapesRow.recurses == Tryd.prog.recurses 5) = true := by kernel_rfl
theorem k13 : (Rows.wordShapesRow.named == Tryd.prog.varsNamed 5) = true := by kernel_rfl
theorem types : Tryd.f5.params.toList ++ Rows.wordShapesSpec.plain.varTypes Tryd.prog = Tryd.f5.params.toList := by kernel_rfl
theorem k14 : (Rows.wordShapesRow.maps == Tryd.f5.params.toList.any (Tryd.prog.mapsRec ·)) = true := by kernel_rfl
theorem k15 : (Rows.wordShapesRow.ifaces == Tryd.f5.params.toList.any (Tryd.prog.ifacesRec ·)) = true := by kernel_rfl
theorem k16 : (Rows.wordShapesRow.mapsOut == Tryd.prog.mapsAmong Tryd.f5.resultTypes.toList) = true := by kernel_rfl
theorem k17 : (Rows.wordShapesRow.loops == Tryd.f5.params.toList.any (Tryd.prog.loopsFrom ·)) = true := by kernel_rfl
theorem k17b : (Rows.wordShapesRow.wideKeys == (Tryd.f5.params.toList ++ Tryd.f5.resultTypes.toList).any (Tryd.prog.wideKeysFrom ·)) = true := by kernel_rfl
theorem k18 : Rows.wordShapesSpec.vars.all (Tryd.prog.varReadable ·) = true := by kernel_rfl
theorem k19 : (Tryd.f5.resultTypes.all fun t => Tryd.prog.readableRec t && decide (t < Tryd.prog.types.size)) = true := by kernel_rfl
theorem k20 : (Rows.wordShapesRow.ifacesOut == Tryd.f5.resultTypes.toList.any (Tryd.prog.ifacesRec ·)) = true := by kernel_rfl
theorem k21 : (Rows.wordShapesRow.loopsOut == Tryd.f5.resultTypes.toList.any (Tryd.prog.loopsFrom ·)) = true := by kernel_rfl
theorem k25 : (Rows.wordShapesRow.kinds == (if Rows.wordShapesRow.domain.isEmpty then [] else Tryd.f5.params.toList.map fun t => match Tryd.prog.underlying t with | some (.int k) => some k | _ => none)) = true := by kernel_rfl
theorem k26 : (Rows.wordShapesRow.pinned == Rows.wordShapesRow.pinnedBy) = true := by kernel_rfl
theorem k27 : (Rows.wordShapesRow.veiled == (Tryd.f5.params.toList ++ Tryd.f5.resultTypes.toList).any (Tryd.prog.veiledRec ·)) = true := by kernel_rfl
theorem k28 : Rows.wordShapesRow.veiledFits Tryd.prog Tryd.f5.params.toList (Tryd.f5.params.toList ++ Tryd.f5.resultTypes.toList) = true := by kernel_rfl
set_option maxRecDepth 100000 in
theorem closed : joinedFacts Tryd.prog 5 Tryd.f5 Rows.wordShapesSpec Rows.wordShapesRow = true :=
  joined_of types k1 laidOut sf.mapsRowed_ k4 k5 rfl sf.stops_ rfl sf.knobs_ k10 k11 k12 k13 k14 k15 k16 k17 k17b k18 k19 k20 k21 sf.plainKeys_ rfl sf.heard_ sf.enters_ sf.lifts_ sf.make_ k25 k26 k27 k28
theorem named_f : Tryd.prog.funcNamed "lustrum/lustrumlaw3.WordShapes" = some 5 := by kernel_rfl
theorem apart_ : Tryd.f5.isInstance Tryd.prog Rows.wordShapesRow.origin Rows.wordShapesRow.targs := of_decide_eq_true (by kernel_rfl)
theorem wrapper_ : Tryd.f5.isWrapper Tryd.prog Rows.wordShapesRow.wrapper Rows.wordShapesRow.mainSum := by unfold Func.isWrapper; first | (rw [if_pos (by decide +kernel)]; kernel_rfl) | (rw [if_neg (by decide +kernel)]; exact ⟨rfl, rfl⟩)

theorem looks (f : FuncId) (fn : Func) (hf : Tryd.pinned.checked.prog.funcNamed "lustrum/lustrumlaw3.WordShapes" = some f) (hfn : Tryd.pinned.checked.prog.funcs[f]? = some fn) :
    true = Tryd.pinned.checked.prog.looks [] ∧ ∀ (j : Nat) t, fn.params[j]? = some t → Tryd.pinned.checked.prog.wantsStandIn t = false := by
  obtain rfl : f = 5 := Option.some.inj (named_f.symm.trans hf) |>.symm
  obtain rfl : fn = Tryd.f5 := (Option.some.inj (Tryd.func5.symm.trans hfn)).symm
  refine ⟨sf.looks_, fun j t ht => ?_⟩
  have hm : t ∈ Tryd.f5.params.toList := Array.mem_toList_iff.2 (Array.mem_of_getElem? ht)
  have ha : (Tryd.f5.params.toList.all fun t => !Tryd.prog.wantsStandIn t) = true := by kernel_rfl
  have h1 := List.all_eq_true.1 ha t hm
  have h2 : Tryd.prog.wantsStandIn t = false := by simpa using h1
  exact h2
theorem pars : ∀ t ∈ Tryd.f5.params.toList, Tryd.prog.readableRec t = true ∧ t < Tryd.prog.types.size := fun t ht => by
  have ha : (Tryd.f5.params.toList.all fun t => Tryd.prog.readableRec t && decide (t < Tryd.prog.types.size)) = true := by kernel_rfl
  have := List.all_eq_true.1 ha t ht
  simpa using this
set_option maxRecDepth 100000 in
theorem contract (H : Type) (enc : TypeId × Value → H) (W : World) (base : Nat) (args : Array Value) (ds gs : List (DataW H)) (before : List MemPlace)
    (hval : ∀ (j : Nat) t v, Tryd.f5.params[j]? = some t → args[j]? = some v → Value.okWide Tryd.prog W .any base t v)
    (hW : DataW.Whole enc Tryd.prog Tryd.f5.params.toList Rows.wordShapesSpec.vars false W args.toList ds gs before) (hL : laidMetH Tryd.prog Rows.wordShapesRow.laid W) :
    Calls Tryd.prog 5 args W fun e W' => ∃ v, e = .returned v ∧ Rows.wordShapesSpec.post enc Tryd.prog Tryd.f5 false true false false W args v W' :=
  (calls H enc W base args ds gs before hval hW hL).mono fun e W' h => ⟨.bool true, h.1, post_true laidOut pars rfl rfl Tryd.underlying4 (fun ds hd => by
    match ds, hd with
    | [d1, d2], _ => rfl) hW h.2⟩
noncomputable def wArgs : Array Value := #[.string ⟨#[]⟩, .slice none 0 0]
theorem met (os : Os) (args : Array Value) : laidMetH Tryd.prog Rows.wordShapesRow.laid ((World.doorLaid Tryd.prog 260 os).forCall (fun _ _ => 0) ⟨#[], args, []⟩).memory :=
  laidMetH_of_parts (laidMet_of_run' 8 (by kernel_rfl) (by kernel_rfl)) (by kernel_rfl)
theorem reads (os : Os) {H : Type} (enc : TypeId × Value → H) : ∃ ds places, DataW.whole enc Tryd.prog ((World.doorLaid Tryd.prog 260 os).forCall (fun _ _ => 0) ⟨#[], wArgs, []⟩).memory Tryd.f5.params.toList Rows.wordShapesSpec.vars false wArgs.toList 8 = some (ds, [], places) :=
  ⟨[.lit (.string []),.nil], [], by kernel_rfl⟩
set_option maxRecDepth 100000 in
theorem lifted (os : Os) (started : os.Started) (H : Type) (enc : TypeId × Value → H) (F : Stop.Interp) :
    ReturnsInHanded {} Tryd.checked os 5 .any ((OpenSpec.ofChange Rows.wordShapesSpec).preRow enc Tryd.prog Tryd.f5 Rows.wordShapesRow.domain false Rows.wordShapesRow.laid) (((OpenSpec.ofChange Rows.wordShapesSpec).at F).post enc Tryd.prog Tryd.f5 false true false false) := by
  obtain ⟨ds, places, hx⟩ := reads os enc
  refine returnsInHanded_of_row (C := Tryd.checked) (s := OpenSpec.ofChange Rows.wordShapesSpec) own started (by kernel_rfl) Tryd.func5
    (witness_row_atRef (enc := enc) (C := Tryd.checked) false (World.doorLaid Tryd.prog 260 os) wArgs rfl (by kernel_rfl) (by kernel_rfl) (by kernel_rfl)
      (OpenSpec.preRow_of_cond 8 hx (by kernel_rfl) (fun k hk => by cases hk) (by kernel_rfl) (met os wArgs))) ?_
  intro W base args ds gs before hval hW _ _ _ hL _ _
  exact contract H enc W base args ds gs before hval hW hL
theorem said : Rows.WordShapesSaid :=
  OpenClaim.holds_of_cond 5 Tryd.f5 rfl rfl rfl rfl rfl rfl rfl ⟨rfl, rfl, rfl, rfl, rfl⟩ rfl rfl rfl rfl rfl named_f Tryd.func5 closed apart_ wrapper_
    (fun os started H enc _ F => by rw [OpenClaim.pre_eq_preRow]; exact lifted os started H enc F)
theorem t1 : Rows.wordShapesRow.wfByText (OpenSpec.ofChange Rows.wordShapesSpec) = true := by kernel_rfl
theorem t2 : Tryd.pinned.checked.prog.mainIs = some (Rows.wordShapesCard.stood.harness.1, Rows.wordShapesCard.stood.harness.2.toList) := by kernel_rfl
theorem t3 : false = Rows.wordShapesRow.goesBy Tryd.pinned.checked.prog := by kernel_rfl
/-- THE CARD -/
theorem card : Rows.WordShapesCardSaid :=
  Claim7.holds_tied_plain_at .later [] _ _ _ _ said (fun _ h => by cases h) t1 (fun _ h => by cases h) wordShapes_row_tie rfl ⟨rfl, rfl⟩ t2 rfl looks t3
end Go.Proofs.YtmbjhpgemphmmaaDoor.wordShapes
namespace Go.Proofs.YtmbjhpgemphmmaaDoor
/-- for every input the law WordShapes answers true -/
theorem wordShapes_holds : Rows.WordShapesCardSaid := wordShapes.card
end Go.Proofs.YtmbjhpgemphmmaaDoor
