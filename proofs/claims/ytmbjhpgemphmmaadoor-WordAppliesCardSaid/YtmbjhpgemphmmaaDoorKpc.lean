/-
  THE CARD of the law WordApplies: for every input the law answers true, and what it was handed reads as before; the listed package-level variables are tied to the program's text by the given tie. Condition: none beyond the given row's own cells.
-/
import Derived.Test.YtmbjhpgemphmmaaDoorKpa
import Derived.Test.YtmbjhpgemphmmaaDoorSf
namespace Go.Proofs.YtmbjhpgemphmmaaDoor.wordApplies
open Go.ChangeShapes Go.WideShapes Go.ChangeAt Go.RowKit
set_option maxRecDepth 100000

theorem k1 : Rows.wordAppliesRow.wf (OpenSpec.ofChange Rows.wordAppliesSpec) = true := by kernel_rfl
theorem k4 : (Tryd.f6.params.all (Tryd.prog.readableRec ·)) = true := by kernel_rfl
theorem k5 : namedTie Tryd.prog Rows.wordAppliesRow.named Rows.wordAppliesSpec.vars = true := by kernel_rfl
theorem k10 : (Rows.wordAppliesRow.inPlace == Tryd.prog.inPlace 6) = true := by kernel_rfl
theorem k11 : (Rows.wordAppliesRow.unfollowed == Tryd.prog.unfollowed 6) = true := by kernel_rfl
theorem k12 : (Rows.wordAppliesRow.recurses == Tryd.prog.recurses 6) = true := by kernel_rfl
theorem k13 : (Rows.wordAppliesRow.named == Tryd.prog.varsNamed 6) = true := by kernel_rfl
theorem types : Tryd.f6.params.toList ++ Rows.wordAppliesSpec.plain.varTypes Tryd.prog = Tryd.f6.params.toList := by kernel_rfl
theorem k14 : (Rows.wordAppliesRow.maps == Tryd.f6.params.toList.any (Tryd.prog.mapsRec ·)) = true := by kernel_rfl
theorem k15 : (Rows.wordAppliesRow.ifaces == Tryd.f6.params.toList.any (Tryd.prog.ifacesRec ·)) = true := by kernel_rfl
theorem k16 : (Rows.wordAppliesRow.mapsOut == Tryd.prog.mapsAmong Tryd.f6.resultTypes.toList) = true := by kernel_rfl
theorem k17 : (Rows.wordAppliesRow.loops == Tryd.f6.params.toList.any (Tryd.prog.loopsFrom ·)) = true := by kernel_rfl
theorem k17b : (Rows.wordAppliesRow.wideKeys == (Tryd.f6.params.toList ++ Tryd.f6.resultTypes.toList).any (Tryd.prog.wideKeysFrom ·)) = true := by kernel_rfl
theorem k18 : Rows.wordAppliesSpec.vars.all (Tryd.prog.varReadable ·) = true := by kernel_rfl
theorem k19 : (Tryd.f6.resultTypes.all fun t => Tryd.prog.readableRec t && decide (t < Tryd.prog.types.size)) = true := by kernel_rfl
theorem k20 : (Rows.wordAppliesRow.ifacesOut == Tryd.f6.resultTypes.toList.any (Tryd.prog.ifacesRec ·)) = true := by kernel_rfl
theorem k21 : (Rows.wordAppliesRow.loopsOut == Tryd.f6.resultTypes.toList.any (Tryd.prog.loopsFrom ·)) = true := by kernel_rfl
theorem k25 : (Rows.wordAppliesRow.kinds == (if Rows.wordAppliesRow.domain.isEmpty then [] else Tryd.f6.params.toList.map fun t => match Tryd.prog.underlying t with | some (.int k) => some k | _ => none)) = true := by kernel_rfl
theorem k26 : (Rows.wordAppliesRow.pinned == Rows.wordAppliesRow.pinnedBy) = true := by kernel_rfl
theorem k27 : (Rows.wordAppliesRow.veiled == (Tryd.f6.params.toList ++ Tryd.f6.resultTypes.toList).any (Tryd.prog.veiledRec ·)) = true := by kernel_rfl
theorem k28 : Rows.wordAppliesRow.veiledFits Tryd.prog Tryd.f6.params.toList (Tryd.f6.params.toList ++ Tryd.f6.resultTypes.toList) = true := by kernel_rfl
set_option maxRecDepth 100000 in
theorem closed : joinedFacts Tryd.prog 6 Tryd.f6 Rows.wordAppliesSpec Rows.wordAppliesRow = true :=
  joined_of types k1 laidOut sf.mapsRowed_ k4 k5 rfl sf.stops_ rfl sf.knobs_ k10 k11 k12 k13 k14 k15 k16 k17 k17b k18 k19 k20 k21 sf.plainKeys_ rfl sf.heard_ sf.enters_ sf.lifts_ sf.make_ k25 k26 k27 k28
theorem named_f : Tryd.prog.funcNamed "lustrum/lustrumlaw3.WordApplies" = some 6 := by kernel_rfl
theorem apart_ : Tryd.f6.isInstance Tryd.prog Rows.wordAppliesRow.origin Rows.wordAppliesRow.targs := of_decide_eq_true (by kernel_rfl)
theorem wrapper_ : Tryd.f6.isWrapper Tryd.prog Rows.wordAppliesRow.wrapper Rows.wordAppliesRow.mainSum := by unfold Func.isWrapper; first | (rw [if_pos (by decide +kernel)]; kernel_rfl) | (rw [if_neg (by decide +kernel)]; exact ⟨rfl, rfl⟩)

theorem looks (f : FuncId) (fn : Func) (hf : Tryd.pinned.checked.prog.funcNamed "lustrum/lustrumlaw3.WordApplies" = some f) (hfn : Tryd.pinned.checked.prog.funcs[f]? = some fn) :
    true = Tryd.pinned.checked.prog.looks [] ∧ ∀ (j : Nat) t, fn.params[j]? = some t → Tryd.pinned.checked.prog.wantsStandIn t = false := by
  obtain rfl : f = 6 := Option.some.inj (named_f.symm.trans hf) |>.symm
  obtain rfl : fn = Tryd.f6 := (Option.some.inj (Tryd.func6.symm.trans hfn)).symm
  refine ⟨sf.looks_, fun j t ht => ?_⟩
  have hm : t ∈ Tryd.f6.params.toList := Array.mem_toList_iff.2 (Array.mem_of_getElem? ht)
  have ha : (Tryd.f6.params.toList.all fun t => !Tryd.prog.wantsStandIn t) = true := by kernel_rfl
  have h1 := List.all_eq_true.1 ha t hm
  have h2 : Tryd.prog.wantsStandIn t = false := by simpa using h1
  exact h2
theorem pars : ∀ t ∈ Tryd.f6.params.toList, Tryd.prog.readableRec t = true ∧ t < Tryd.prog.types.size := fun t ht => by
  have ha : (Tryd.f6.params.toList.all fun t => Tryd.prog.readableRec t && decide (t < Tryd.prog.types.size)) = true := by kernel_rfl
  have := List.all_eq_true.1 ha t ht
  simpa using this
set_option maxRecDepth 100000 in
theorem contract (H : Type) (enc : TypeId × Value → H) (W : World) (base : Nat) (args : Array Value) (ds gs : List (DataW H)) (before : List MemPlace)
    (hval : ∀ (j : Nat) t v, Tryd.f6.params[j]? = some t → args[j]? = some v → Value.okWide Tryd.prog W .any base t v)
    (hW : DataW.Whole enc Tryd.prog Tryd.f6.params.toList Rows.wordAppliesSpec.vars false W args.toList ds gs before) (hL : laidMetH Tryd.prog Rows.wordAppliesRow.laid W) :
    Calls Tryd.prog 6 args W fun e W' => ∃ v, e = .returned v ∧ Rows.wordAppliesSpec.post enc Tryd.prog Tryd.f6 false true false false W args v W' :=
  (calls H enc W base args ds gs before hval hW hL).mono fun e W' h => ⟨.bool true, h.1, post_true laidOut pars rfl rfl Tryd.underlying4 (fun ds hd => by
    match ds, hd with
    | [d1, d2], _ => rfl) hW h.2⟩
noncomputable def wArgs : Array Value := #[.string ⟨#[]⟩, .slice none 0 0]
theorem met (os : Os) (args : Array Value) : laidMetH Tryd.prog Rows.wordAppliesRow.laid ((World.doorLaid Tryd.prog 260 os).forCall (fun _ _ => 0) ⟨#[], args, []⟩).memory :=
  laidMetH_of_parts (laidMet_of_run' 8 (by kernel_rfl) (by kernel_rfl)) (by kernel_rfl)
theorem reads (os : Os) {H : Type} (enc : TypeId × Value → H) : ∃ ds places, DataW.whole enc Tryd.prog ((World.doorLaid Tryd.prog 260 os).forCall (fun _ _ => 0) ⟨#[], wArgs, []⟩).memory Tryd.f6.params.toList Rows.wordAppliesSpec.vars false wArgs.toList 8 = some (ds, [], places) :=
  ⟨[.lit (.string []),.nil], [], by kernel_rfl⟩
set_option maxRecDepth 100000 in
theorem lifted (os : Os) (started : os.Started) (H : Type) (enc : TypeId × Value → H) (F : Stop.Interp) :
    ReturnsInHanded {} Tryd.checked os 6 .any ((OpenSpec.ofChange Rows.wordAppliesSpec).preRow enc Tryd.prog Tryd.f6 Rows.wordAppliesRow.domain false Rows.wordAppliesRow.laid) (((OpenSpec.ofChange Rows.wordAppliesSpec).at F).post enc Tryd.prog Tryd.f6 false true false false) := by
  obtain ⟨ds, places, hx⟩ := reads os enc
  refine returnsInHanded_of_row (C := Tryd.checked) (s := OpenSpec.ofChange Rows.wordAppliesSpec) own started (by kernel_rfl) Tryd.func6
    (witness_row_atRef (enc := enc) (C := Tryd.checked) false (World.doorLaid Tryd.prog 260 os) wArgs rfl (by kernel_rfl) (by kernel_rfl) (by kernel_rfl)
      (OpenSpec.preRow_of_cond 8 hx (by kernel_rfl) (fun k hk => by cases hk) (by kernel_rfl) (met os wArgs))) ?_
  intro W base args ds gs before hval hW _ _ _ hL _ _
  exact contract H enc W base args ds gs before hval hW hL
theorem said : Rows.WordAppliesSaid :=
  OpenClaim.holds_of_cond 6 Tryd.f6 rfl rfl rfl rfl rfl rfl rfl ⟨rfl, rfl, rfl, rfl, rfl⟩ rfl rfl rfl rfl rfl named_f Tryd.func6 closed apart_ wrapper_
    (fun os started H enc _ F => by rw [OpenClaim.pre_eq_preRow]; exact lifted os started H enc F)
theorem t1 : Rows.wordAppliesRow.wfByText (OpenSpec.ofChange Rows.wordAppliesSpec) = true := by kernel_rfl
theorem t2 : Tryd.pinned.checked.prog.mainIs = some (Rows.wordAppliesCard.stood.harness.1, Rows.wordAppliesCard.stood.harness.2.toList) := by kernel_rfl
theorem t3 : false = Rows.wordAppliesRow.goesBy Tryd.pinned.checked.prog := by kernel_rfl
/-- THE CARD -/
theorem card : Rows.WordAppliesCardSaid :=
  Claim7.holds_tied_plain_at .later [] _ _ _ _ said (fun _ h => by cases h) t1 (fun _ h => by cases h) wordApplies_row_tie rfl ⟨rfl, rfl⟩ t2 rfl looks t3
end Go.Proofs.YtmbjhpgemphmmaaDoor.wordApplies
namespace Go.Proofs.YtmbjhpgemphmmaaDoor
/-- for every input the law WordApplies answers true -/
theorem wordApplies_holds : Rows.WordAppliesCardSaid := wordApplies.card
end Go.Proofs.YtmbjhpgemphmmaaDoor
