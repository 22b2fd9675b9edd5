/-
  THE LAW SatSplits, called with whatever can be read; ITS CARD: for every input the law answers true, and what it was handed reads as before; the listed package-level variables are tied to the program's text by the given tie.
-/
import Derived.Test.YtaedbnbeelkkcaaDoorKno
import Derived.Test.YtaedbnbeelkkcaaDoorN7
import Derived.Test.YtaedbnbeelkkcaaDoorSk
import Derived.Lay
import Derived.MakeChecks
namespace Go.Proofs.YtaedbnbeelkkcaaDoor.satSplits
open Go.ChangeShapes Go.WideShapes Go.ChangeAt Go.RowKit
set_option maxRecDepth 100000 in
theorem calls (H : Type) (enc : TypeId × Value → H) (W : World) (base : Nat) (args : Array Value) (ds gs : List (DataW H)) (before : List MemPlace)
    (hval : ∀ (j : Nat) t v, Tryd.f3.params[j]? = some t → args[j]? = some v → Value.okWide Tryd.prog W .any base t v)
    (hW : DataW.Whole enc Tryd.prog Tryd.f3.params.toList Rows.satSplitsSpec.vars false W args.toList ds gs before) (hz : (DataW.weightsEach Tryd.prog (Tryd.f3.params.toList ++ (OpenSpec.ofChange Rows.satSplitsSpec).bare.plain.varTypes Tryd.prog) (ds ++ gs)).all (· ≤ reachBytes) = true) (hL : laidMetH Tryd.prog Rows.satSplitsRow.laid W) :
    Calls Tryd.prog 3 args W fun e W' => e = .returned (.bool true) ∧ Below W.heap.size W W' := by
  obtain ⟨p, q, hA0, hV, rfl, hfz, hnd⟩ := hW
  have hA : DataW.TrodAll enc Tryd.prog W 0 (fun _ => true) true Tryd.f3.params.toList args.toList ds p := hA0
  rw [Tryd.params3] at hA hval hz
  obtain ⟨v0, vs0, d0, ds0, p0, q0, hargs, rfl, rfl, h0, r0⟩ := trodAll_cons hA
  obtain ⟨v1, vs1, d1, ds1, p1, q1, rfl, rfl, rfl, h1, r1⟩ := trodAll_cons r0
  obtain ⟨v2, vs2, d2, ds2, p2, q2, rfl, rfl, rfl, h2, r2⟩ := trodAll_cons r1
  obtain ⟨rfl, rfl, rfl⟩ := trodAll_nil r2
  obtain rfl : args = #[v0, v1, v2] := by cases args; simp_all
  obtain ⟨x, A, n, c, cs, rfl, hn, hr, hb⟩ := open_form (hval 0 24 v0 rfl rfl) h0
  obtain ⟨z, rfl, rfl, rfl, _⟩ := open_int Tryd.underlying3 (hval 1 3 v1 rfl rfl) h1
  obtain ⟨A3, cl, c3, rfl, hr3, _⟩ := open_intRow Tryd.underlying26 Tryd.underlying3 (by kernel_rfl) (hval 2 26 v2 rfl rfl) h2
  have hbd : Fits cs := hb (weights_first hz)
  obtain ⟨ea, hes⟩ := sen_of_laid hL fun _ hx => hx
  exact slv.splits_any hn rfl hes hbd hr (Nat.le_refl _) hr3 (Nat.le_refl _)
set_option maxRecDepth 100000
theorem k1 : Rows.satSplitsRow.wf (OpenSpec.ofChange Rows.satSplitsSpec) = true := by kernel_rfl
theorem k4 : (Tryd.f3.params.all (Tryd.prog.readableRec ·)) = true := by kernel_rfl
theorem k5 : namedTie Tryd.prog Rows.satSplitsRow.named Rows.satSplitsSpec.vars = true := by kernel_rfl
theorem k10 : (Rows.satSplitsRow.inPlace == Tryd.prog.inPlace 3) = true := by kernel_rfl
theorem k11 : (Rows.satSplitsRow.unfollowed == Tryd.prog.unfollowed 3) = true := by kernel_rfl
theorem k12 : (Rows.satSplitsRow.recurses == Tryd.prog.recurses 3) = true := by kernel_rfl
theorem k13 : (Rows.satSplitsRow.named == Tryd.prog.varsNamed 3) = true := by kernel_rfl
theorem types : Tryd.f3.params.toList ++ Rows.satSplitsSpec.plain.varTypes Tryd.prog = Tryd.f3.params.toList := by kernel_rfl
theorem k14 : (Rows.satSplitsRow.maps == Tryd.f3.params.toList.any (Tryd.prog.mapsRec ·)) = true := by kernel_rfl
theorem k15 : (Rows.satSplitsRow.ifaces == Tryd.f3.params.toList.any (Tryd.prog.ifacesRec ·)) = true := by kernel_rfl
theorem k16 : (Rows.satSplitsRow.mapsOut == Tryd.prog.mapsAmong Tryd.f3.resultTypes.toList) = true := by kernel_rfl
theorem k17 : (Rows.satSplitsRow.loops == Tryd.f3.params.toList.any (Tryd.prog.loopsFrom ·)) = true := by kernel_rfl
theorem k17b : (Rows.satSplitsRow.wideKeys == (Tryd.f3.params.toList ++ Tryd.f3.resultTypes.toList).any (Tryd.prog.wideKeysFrom ·)) = true := by kernel_rfl
theorem k18 : Rows.satSplitsSpec.vars.all (Tryd.prog.varReadable ·) = true := by kernel_rfl
theorem k19 : (Tryd.f3.resultTypes.all fun t => Tryd.prog.readableRec t && decide (t < Tryd.prog.types.size)) = true := by kernel_rfl
theorem k20 : (Rows.satSplitsRow.ifacesOut == Tryd.f3.resultTypes.toList.any (Tryd.prog.ifacesRec ·)) = true := by kernel_rfl
theorem k21 : (Rows.satSplitsRow.loopsOut == Tryd.f3.resultTypes.toList.any (Tryd.prog.loopsFrom ·)) = true := by kernel_rfl
theorem k25 : (Rows.satSplitsRow.kinds == (if Rows.satSplitsRow.domain.isEmpty then [] else Tryd.f3.params.toList.map fun t => match Tryd.prog.underlying t with | some (.int k) => some k | _ => none)) = true := by kernel_rfl
theorem k26 : (Rows.satSplitsRow.pinned == Rows.satSplitsRow.pinnedBy) = true := by kernel_rfl
theorem k27 : (Rows.satSplitsRow.veiled == (Tryd.f3.params.toList ++ Tryd.f3.resultTypes.toList).any (Tryd.prog.veiledRec ·)) = true := by kernel_rfl
theorem k28 : Rows.satSplitsRow.veiledFits Tryd.prog Tryd.f3.params.toList (Tryd.f3.params.toList ++ Tryd.f3.resultTypes.toList) = true := by kernel_rfl
set_option maxRecDepth 100000 in
theorem closed : joinedFacts Tryd.prog 3 Tryd.f3 Rows.satSplitsSpec Rows.satSplitsRow = true :=
  joined_of types k1 laidOut sf.mapsRowed_ k4 k5 rfl sf.stops_ rfl sf.knobs_ k10 k11 k12 k13 k14 k15 k16 k17 k17b k18 k19 k20 k21 sf.plainKeys_ rfl sf.heard_ sf.enters_ sf.lifts_ sf.make_ k25 k26 k27 k28
theorem named_f : Tryd.prog.funcNamed "lustrum/lustrumlaw3.SatSplits" = some 3 := by kernel_rfl
theorem apart_ : Tryd.f3.isInstance Tryd.prog Rows.satSplitsRow.origin Rows.satSplitsRow.targs := of_decide_eq_true (by kernel_rfl)
theorem wrapper_ : Tryd.f3.isWrapper Tryd.prog Rows.satSplitsRow.wrapper Rows.satSplitsRow.mainSum := by unfold Func.isWrapper; first | (rw [if_pos (by decide +kernel)]; kernel_rfl) | (rw [if_neg (by decide +kernel)]; exact ⟨rfl, rfl⟩)

theorem looks (f : FuncId) (fn : Func) (hf : Tryd.pinned.checked.prog.funcNamed "lustrum/lustrumlaw3.SatSplits" = some f) (hfn : Tryd.pinned.checked.prog.funcs[f]? = some fn) :
    true = Tryd.pinned.checked.prog.looks [] ∧ ∀ (j : Nat) t, fn.params[j]? = some t → Tryd.pinned.checked.prog.wantsStandIn t = false := by
  obtain rfl : f = 3 := Option.some.inj (named_f.symm.trans hf) |>.symm
  obtain rfl : fn = Tryd.f3 := (Option.some.inj (Tryd.func3.symm.trans hfn)).symm
  refine ⟨sf.looks_, fun j t ht => ?_⟩
  have hm : t ∈ Tryd.f3.params.toList := Array.mem_toList_iff.2 (Array.mem_of_getElem? ht)
  have ha : (Tryd.f3.params.toList.all fun t => !Tryd.prog.wantsStandIn t) = true := by kernel_rfl
  have h1 := List.all_eq_true.1 ha t hm
  have h2 : Tryd.prog.wantsStandIn t = false := by simpa using h1
  exact h2
theorem pars : ∀ t ∈ Tryd.f3.params.toList, Tryd.prog.readableRec t = true ∧ t < Tryd.prog.types.size := fun t ht => by
  have ha : (Tryd.f3.params.toList.all fun t => Tryd.prog.readableRec t && decide (t < Tryd.prog.types.size)) = true := by kernel_rfl
  have := List.all_eq_true.1 ha t ht
  simpa using this
set_option maxRecDepth 100000 in
theorem contract (H : Type) (enc : TypeId × Value → H) (W : World) (base : Nat) (args : Array Value) (ds gs : List (DataW H)) (before : List MemPlace)
    (hval : ∀ (j : Nat) t v, Tryd.f3.params[j]? = some t → args[j]? = some v → Value.okWide Tryd.prog W .any base t v)
    (hW : DataW.Whole enc Tryd.prog Tryd.f3.params.toList Rows.satSplitsSpec.vars false W args.toList ds gs before) (hz : (DataW.weightsEach Tryd.prog (Tryd.f3.params.toList ++ (OpenSpec.ofChange Rows.satSplitsSpec).bare.plain.varTypes Tryd.prog) (ds ++ gs)).all (· ≤ reachBytes) = true) (hL : laidMetH Tryd.prog Rows.satSplitsRow.laid W) :
    Calls Tryd.prog 3 args W fun e W' => ∃ v, e = .returned v ∧ Rows.satSplitsSpec.post enc Tryd.prog Tryd.f3 false true false false W args v W' :=
  (calls H enc W base args ds gs before hval hW hz hL).mono fun e W' h => ⟨.bool true, h.1, post_true laidOut pars rfl rfl Tryd.underlying4 (fun ds hd => by
    match ds, hd with
    | [d1, d2, d3], _ => rfl) hW h.2⟩
noncomputable def wArgs : Array Value := #[.agg #[.int .i64 0, .slice none 0 0], .int .i64 0, .slice none 0 0]
theorem met (os : Os) (args : Array Value) : laidMetH Tryd.prog Rows.satSplitsRow.laid ((World.laidAll Tryd.prog os Rows.satSplitsRow.laid).forCall (fun _ _ => 0) ⟨#[], args, []⟩).memory :=
  by rw [MakeChecks.laidMetH_plain _ _ _ (by kernel_rfl)]; exact laidMet_laidAll _ (by kernel_rfl) (by kernel_rfl)
theorem reads (os : Os) {H : Type} (enc : TypeId × Value → H) : ∃ places, DataW.whole enc Tryd.prog ((World.laidAll Tryd.prog os Rows.satSplitsRow.laid).forCall (fun _ _ => 0) ⟨#[], wArgs, []⟩).memory Tryd.f3.params.toList Rows.satSplitsSpec.vars false wArgs.toList 8 = some ([.agg [.lit (.int .i64 0), .nil], .lit (.int .i64 0), .nil], [], places) :=
  ⟨[], by kernel_rfl⟩
set_option maxRecDepth 100000 in
theorem lifted (os : Os) (started : os.Started) (H : Type) (enc : TypeId × Value → H) (F : Stop.Interp) :
    ReturnsInHanded {} Tryd.checked os 3 .any ((OpenSpec.ofChange Rows.satSplitsSpec).preRow enc Tryd.prog Tryd.f3 Rows.satSplitsRow.domain false Rows.satSplitsRow.laid) (((OpenSpec.ofChange Rows.satSplitsSpec).at F).post enc Tryd.prog Tryd.f3 false true false false) := by
  obtain ⟨places, hx⟩ := reads os enc
  refine returnsInHanded_of_row (C := Tryd.checked) (s := OpenSpec.ofChange Rows.satSplitsSpec) own started (by kernel_rfl) Tryd.func3
    (witness_row_atRef (enc := enc) (C := Tryd.checked) false (World.laidAll Tryd.prog os Rows.satSplitsRow.laid) wArgs (World.laidAll_os _ _ _) (by kernel_rfl) (by kernel_rfl) (by kernel_rfl)
      (OpenSpec.preRow_of_cond 8 hx (by kernel_rfl) (fun k hk => by cases hk) (by kernel_rfl) (met os wArgs))) ?_
  intro W base args ds gs before hval hW _ _ hz hL _ _
  exact contract H enc W base args ds gs before hval hW hz hL
theorem said : Rows.SatSplitsSaid :=
  OpenClaim.holds_of_cond 3 Tryd.f3 rfl rfl rfl rfl rfl rfl rfl ⟨rfl, rfl, rfl, rfl, rfl⟩ rfl rfl rfl rfl rfl named_f Tryd.func3 closed apart_ wrapper_
    (fun os started H enc _ F => by rw [OpenClaim.pre_eq_preRow]; exact lifted os started H enc F)
theorem t1 : Rows.satSplitsRow.wfByText (OpenSpec.ofChange Rows.satSplitsSpec) = true := by kernel_rfl
theorem t2 : Tryd.pinned.checked.prog.mainIs = some (Rows.satSplitsCard.stood.harness.1, Rows.satSplitsCard.stood.harness.2.toList) := by kernel_rfl
theorem t3 : false = Rows.satSplitsRow.goesBy Tryd.pinned.checked.prog := by kernel_rfl
/-- THE CARD -/
theorem card : Rows.SatSplitsCardSaid :=
  Claim7.holds_tied_plain_at .later [] _ _ _ _ said (fun _ h => by cases h) t1 (fun _ h => by cases h) satSplits_row_tie rfl ⟨rfl, rfl⟩ t2 rfl looks t3
end Go.Proofs.YtaedbnbeelkkcaaDoor.satSplits
namespace Go.Proofs.YtaedbnbeelkkcaaDoor
/-- for every input the law SatSplits answers true -/
theorem satSplits_holds : Rows.SatSplitsCardSaid := satSplits.card
end Go.Proofs.YtaedbnbeelkkcaaDoor
