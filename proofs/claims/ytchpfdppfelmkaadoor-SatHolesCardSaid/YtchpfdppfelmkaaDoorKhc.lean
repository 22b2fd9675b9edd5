/-
  THE CARD of the law SatHoles: for every input the law answers true, and what it was handed reads as before; the listed package-level variables are tied to the program's text by the given tie. Condition: none beyond the given row's own cells.
-/
import Derived.Test.YtchpfdppfelmkaaDoorMq
import Derived.Test.YtchpfdppfelmkaaDoorM2
import Derived.Test.YtchpfdppfelmkaaDoorSk
import Derived.Lay
import Derived.MakeChecks
namespace Go.Proofs.YtchpfdppfelmkaaDoor.satHoles
open Go.ChangeShapes Go.WideShapes Go.ChangeAt Go.RowKit
set_option maxRecDepth 100000 in
theorem calls (H : Type) (enc : TypeId × Value → H) (W : World) (base : Nat) (args : Array Value) (ds gs : List (DataW H)) (before : List MemPlace)
    (hval : ∀ (j : Nat) t v, Tryd.f6.params[j]? = some t → args[j]? = some v → Value.okWide Tryd.prog W .any base t v)
    (hW : DataW.Whole enc Tryd.prog Tryd.f6.params.toList Rows.satHolesSpec.vars false W args.toList ds gs before) (hL : laidMetH Tryd.prog Rows.satHolesRow.laid W) :
    Calls Tryd.prog 6 args W fun e W' => e = .returned (.bool true) ∧ Below W.heap.size W W' := by
  obtain ⟨p, q, hA0, hV, rfl, hfz, hnd⟩ := hW
  have hA : DataW.TrodAll enc Tryd.prog W 0 (fun _ => true) true Tryd.f6.params.toList args.toList ds p := hA0
  rw [Tryd.params6] at hA hval
  obtain ⟨v0, vs0, d0, ds0, p0, q0, hargs, rfl, rfl, h0, r0⟩ := trodAll_cons hA
  obtain ⟨rfl, rfl, rfl⟩ := trodAll_nil r0
  obtain rfl : args = #[v0] := by cases args; simp_all
  obtain ⟨z0, rfl, rfl, rfl, _⟩ := open_int Tryd.underlying3 (hval 0 3 v0 rfl rfl) h0
  obtain ⟨ea, hes⟩ := sen_of_laid hL fun _ hx => hx
  exact slv.holesLaw_any hes
set_option maxRecDepth 100000

theorem k1 : Rows.satHolesRow.wf (OpenSpec.ofChange Rows.satHolesSpec) = true := by kernel_rfl
theorem k4 : (Tryd.f6.params.all (Tryd.prog.readableRec ·)) = true := by kernel_rfl
theorem k5 : namedTie Tryd.prog Rows.satHolesRow.named Rows.satHolesSpec.vars = true := by kernel_rfl
theorem k10 : (Rows.satHolesRow.inPlace == Tryd.prog.inPlace 6) = true := by kernel_rfl
theorem k11 : (Rows.satHolesRow.unfollowed == Tryd.prog.unfollowed 6) = true := by kernel_rfl
theorem k12 : (Rows.satHolesRow.recurses == Tryd.prog.recurses 6) = true := by kernel_rfl
theorem k13 : (Rows.satHolesRow.named == Tryd.prog.varsNamed 6) = true := by kernel_rfl
theorem types : Tryd.f6.params.toList ++ Rows.satHolesSpec.plain.varTypes Tryd.prog = Tryd.f6.params.toList := by kernel_rfl
theorem k14 : (Rows.satHolesRow.maps == Tryd.f6.params.toList.any (Tryd.prog.mapsRec ·)) = true := by kernel_rfl
theorem k15 : (Rows.satHolesRow.ifaces == Tryd.f6.params.toList.any (Tryd.prog.ifacesRec ·)) = true := by kernel_rfl
theorem k16 : (Rows.satHolesRow.mapsOut == Tryd.prog.mapsAmong Tryd.f6.resultTypes.toList) = true := by kernel_rfl
theorem k17 : (Rows.satHolesRow.loops == Tryd.f6.params.toList.any (Tryd.prog.loopsFrom ·)) = true := by kernel_rfl
theorem k17b : (Rows.satHolesRow.wideKeys == (Tryd.f6.params.toList ++ Tryd.f6.resultTypes.toList).any (Tryd.prog.wideKeysFrom ·)) = true := by kernel_rfl
theorem k18 : Rows.satHolesSpec.vars.all (Tryd.prog.varReadable ·) = true := by kernel_rfl
theorem k19 : (Tryd.f6.resultTypes.all fun t => Tryd.prog.readableRec t && decide (t < Tryd.prog.types.size)) = true := by kernel_rfl
theorem k20 : (Rows.satHolesRow.ifacesOut == Tryd.f6.resultTypes.toList.any (Tryd.prog.ifacesRec ·)) = true := by kernel_rfl
theorem k21 : (Rows.satHolesRow.loopsOut == Tryd.f6.resultTypes.toList.any (Tryd.prog.loopsFrom ·)) = true := by kernel_rfl
theorem k25 : (Rows.satHolesRow.kinds == (if Rows.satHolesRow.domain.isEmpty then [] else Tryd.f6.params.toList.map fun t => match Tryd.prog.underlying t with | some (.int k) => some k | _ => none)) = true := by kernel_rfl
theorem k26 : (Rows.satHolesRow.pinned == Rows.satHolesRow.pinnedBy) = true := by kernel_rfl
theorem k27 : (Rows.satHolesRow.veiled == (Tryd.f6.params.toList ++ Tryd.f6.resultTypes.toList).any (Tryd.prog.veiledRec ·)) = true := by kernel_rfl
theorem k28 : Rows.satHolesRow.veiledFits Tryd.prog Tryd.f6.params.toList (Tryd.f6.params.toList ++ Tryd.f6.resultTypes.toList) = true := by kernel_rfl
set_option maxRecDepth 100000 in
theorem closed : joinedFacts Tryd.prog 6 Tryd.f6 Rows.satHolesSpec Rows.satHolesRow = true :=
  joined_of types k1 laidOut sf.mapsRowed_ k4 k5 rfl sf.stops_ rfl sf.knobs_ k10 k11 k12 k13 k14 k15 k16 k17 k17b k18 k19 k20 k21 sf.plainKeys_ rfl sf.heard_ sf.enters_ sf.lifts_ sf.make_ k25 k26 k27 k28
theorem named_f : Tryd.prog.funcNamed "lustrum/lustrumlaw3.SatHoles" = some 6 := by kernel_rfl
theorem apart_ : Tryd.f6.isInstance Tryd.prog Rows.satHolesRow.origin Rows.satHolesRow.targs := of_decide_eq_true (by kernel_rfl)
theorem wrapper_ : Tryd.f6.isWrapper Tryd.prog Rows.satHolesRow.wrapper Rows.satHolesRow.mainSum := by unfold Func.isWrapper; first | (rw [if_pos (by decide +kernel)]; kernel_rfl) | (rw [if_neg (by decide +kernel)]; exact ⟨rfl, rfl⟩)

theorem looks (f : FuncId) (fn : Func) (hf : Tryd.pinned.checked.prog.funcNamed "lustrum/lustrumlaw3.SatHoles" = some f) (hfn : Tryd.pinned.checked.prog.funcs[f]? = some fn) :
    true = Tryd.pinned.checked.prog.looks [] ∧ ∀ (j : Nat) t, fn.params[j]? = some t → Tryd.pinned.checked.prog.wantsStandIn t = false := by
  obtain rfl : f = 6 := Option.some.inj (named_f.symm.trans hf) |>.symm
  obtain rfl : fn = Tryd.f6 := (Option.some.inj (Tryd.func6.symm.trans hfn)).symm
  refine ⟨sf.looks_, fun j t ht => ?_⟩
  have hm : t ∈ Tryd.f6.params.toList := Array.mem_toList_iff.2 (Array.mem_of_getElem? ht)
  have ha : (Tryd.f6.params.toList.all fun t => !Tryd.prog.wantsStandIn t) = true := by kernel_rfl
  have h1 := List.all_eq_true.1 ha t hm
  have h2 : Tryd.prog.wantsStandIn t = false := by simpa using h1
  exact h2
theorem pars : ∀ t ∈ Tryd.f6.params.toList, Tryd.prog.readableRec t = true ∧ t < Tryd.prog.types.size := fun t ht => by
  have ha : (Tryd.f6.params.toList.all fun t => Tryd.prog.readableRec t && decide (t < Tryd.prog.types.size)) = true := by kernel_rfl
  have := List.all_eq_true.1 ha t ht
  simpa using this
set_option maxRecDepth 100000 in
theorem contract (H : Type) (enc : TypeId × Value → H) (W : World) (base : Nat) (args : Array Value) (ds gs : List (DataW H)) (before : List MemPlace)
    (hval : ∀ (j : Nat) t v, Tryd.f6.params[j]? = some t → args[j]? = some v → Value.okWide Tryd.prog W .any base t v)
    (hW : DataW.Whole enc Tryd.prog Tryd.f6.params.toList Rows.satHolesSpec.vars false W args.toList ds gs before) (hL : laidMetH Tryd.prog Rows.satHolesRow.laid W) :
    Calls Tryd.prog 6 args W fun e W' => ∃ v, e = .returned v ∧ Rows.satHolesSpec.post enc Tryd.prog Tryd.f6 false true false false W args v W' :=
  (calls H enc W base args ds gs before hval hW hL).mono fun e W' h => ⟨.bool true, h.1, post_true laidOut pars rfl rfl Tryd.underlying4 (fun ds hd => by
    match ds, hd with
    | [d], _ => rfl) hW h.2⟩
noncomputable def wArgs : Array Value := #[.int .i64 0]
theorem met (os : Os) (args : Array Value) : laidMetH Tryd.prog Rows.satHolesRow.laid ((World.laidAll Tryd.prog os Rows.satHolesRow.laid).forCall (fun _ _ => 0) ⟨#[], args, []⟩).memory :=
  by rw [MakeChecks.laidMetH_plain _ _ _ (by kernel_rfl)]; exact laidMet_laidAll _ (by kernel_rfl) (by kernel_rfl)
theorem reads (os : Os) {H : Type} (enc : TypeId × Value → H) : ∃ ds places, DataW.whole enc Tryd.prog ((World.laidAll Tryd.prog os Rows.satHolesRow.laid).forCall (fun _ _ => 0) ⟨#[], wArgs, []⟩).memory Tryd.f6.params.toList Rows.satHolesSpec.vars false wArgs.toList 8 = some (ds, [], places) :=
  ⟨[.lit (.int .i64 0)], [], by kernel_rfl⟩
set_option maxRecDepth 100000 in
theorem lifted (os : Os) (started : os.Started) (H : Type) (enc : TypeId × Value → H) (F : Stop.Interp) :
    ReturnsInHanded {} Tryd.checked os 6 .any ((OpenSpec.ofChange Rows.satHolesSpec).preRow enc Tryd.prog Tryd.f6 Rows.satHolesRow.domain false Rows.satHolesRow.laid) (((OpenSpec.ofChange Rows.satHolesSpec).at F).post enc Tryd.prog Tryd.f6 false true false false) := by
  obtain ⟨ds, places, hx⟩ := reads os enc
  refine returnsInHanded_of_row (C := Tryd.checked) (s := OpenSpec.ofChange Rows.satHolesSpec) own started (by kernel_rfl) Tryd.func6
    (witness_row_atRef (enc := enc) (C := Tryd.checked) false (World.laidAll Tryd.prog os Rows.satHolesRow.laid) wArgs (World.laidAll_os _ _ _) (by kernel_rfl) (by kernel_rfl) (by kernel_rfl)
      (OpenSpec.preRow_of_cond 8 hx (by kernel_rfl) (fun k hk => by cases hk) (by kernel_rfl) (met os wArgs))) ?_
  intro W base args ds gs before hval hW _ _ _ hL _ _
  exact contract H enc W base args ds gs before hval hW hL
theorem said : Rows.SatHolesSaid :=
  OpenClaim.holds_of_cond 6 Tryd.f6 rfl rfl rfl rfl rfl rfl rfl ⟨rfl, rfl, rfl, rfl, rfl⟩ rfl rfl rfl rfl rfl named_f Tryd.func6 closed apart_ wrapper_
    (fun os started H enc _ F => by rw [OpenClaim.pre_eq_preRow]; exact lifted os started H enc F)
theorem t1 : Rows.satHolesRow.wfByText (OpenSpec.ofChange Rows.satHolesSpec) = true := by kernel_rfl
theorem t2 : Tryd.pinned.checked.prog.mainIs = some (Rows.satHolesCard.stood.harness.1, Rows.satHolesCard.stood.harness.2.toList) := by kernel_rfl
theorem t3 : false = Rows.satHolesRow.goesBy Tryd.pinned.checked.prog := by kernel_rfl
/-- THE CARD -/
theorem card : Rows.SatHolesCardSaid :=
  Claim7.holds_tied_plain_at .later [] _ _ _ _ said (fun _ h => by cases h) t1 (fun _ h => by cases h) satHoles_row_tie rfl ⟨rfl, rfl⟩ t2 rfl looks t3
end Go.Proofs.YtchpfdppfelmkaaDoor.satHoles
namespace Go.Proofs.YtchpfdppfelmkaaDoor
/-- for every input the law SatHoles answers true -/
theorem satHoles_holds : Rows.SatHolesCardSaid := satHoles.card
end Go.Proofs.YtchpfdppfelmkaaDoor
