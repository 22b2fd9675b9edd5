/-
  THE CARD of the law CnfTexts: for every input the law answers true, and what it was handed reads as before; the listed package-level variables are tied to the program's text by the given tie.
-/
import Derived.Test.YtaedbnbeelkkcaaGreatDoorKsa
import Derived.Test.YtaedbnbeelkkcaaGreatDoorSk
import Derived.Lay
import Derived.MakeChecks
namespace Go.Proofs.YtaedbnbeelkkcaaGreatDoor.cnfTexts
open Go.ChangeShapes Go.WideShapes Go.ChangeAt Go.RowKit
set_option maxRecDepth 100000

theorem k1 : Rows.cnfTextsRow.wf (OpenSpec.ofChange Rows.cnfTextsSpec) = true := by kernel_rfl
theorem k4 : (Tryz.f3.params.all (Tryz.prog.readableRec ·)) = true := by kernel_rfl
theorem k5 : namedTie Tryz.prog Rows.cnfTextsRow.named Rows.cnfTextsSpec.vars = true := by kernel_rfl
theorem k10 : (Rows.cnfTextsRow.inPlace == Tryz.prog.inPlace 3) = true := by kernel_rfl
theorem k11 : (Rows.cnfTextsRow.unfollowed == Tryz.prog.unfollowed 3) = true := by kernel_rfl
theorem k12 : (Rows.cnfTextsRow.recurses == Tryz.prog.recurses 3) = true := by kernel_rfl
theorem k13 : (Rows.cnfTextsRow.named == Tryz.prog.varsNamed 3) = true := by kernel_rfl
theorem types : Tryz.f3.params.toList ++ Rows.cnfTextsSpec.plain.varTypes Tryz.prog = Tryz.f3.params.toList := by kernel_rfl
theorem k14 : (Rows.cnfTextsRow.maps == Tryz.f3.params.toList.any (Tryz.prog.mapsRec ·)) = true := by kernel_rfl
theorem k15 : (Rows.cnfTextsRow.ifaces == Tryz.f3.params.toList.any (Tryz.prog.ifacesRec ·)) = true := by kernel_rfl
theorem k16 : (Rows.cnfTextsRow.mapsOut == Tryz.prog.mapsAmong Tryz.f3.resultTypes.toList) = true := by kernel_rfl
theorem k17 : (Rows.cnfTextsRow.loops == Tryz.f3.params.toList.any (Tryz.prog.loopsFrom ·)) = true := by kernel_rfl
theorem k17b : (Rows.cnfTextsRow.wideKeys == (Tryz.f3.params.toList ++ Tryz.f3.resultTypes.toList).any (Tryz.prog.wideKeysFrom ·)) = true := by kernel_rfl
theorem k18 : Rows.cnfTextsSpec.vars.all (Tryz.prog.varReadable ·) = true := by kernel_rfl
theorem k19 : (Tryz.f3.resultTypes.all fun t => Tryz.prog.readableRec t && decide (t < Tryz.prog.types.size)) = true := by kernel_rfl
theorem k20 : (Rows.cnfTextsRow.ifacesOut == Tryz.f3.resultTypes.toList.any (Tryz.prog.ifacesRec ·)) = true := by kernel_rfl
theorem k21 : (Rows.cnfTextsRow.loopsOut == Tryz.f3.resultTypes.toList.any (Tryz.prog.loopsFrom ·)) = true := by kernel_rfl
theorem k25 : (Rows.cnfTextsRow.kinds == (if Rows.cnfTextsRow.domain.isEmpty then [] else Tryz.f3.params.toList.map fun t => match Tryz.prog.underlying t with | some (.int k) => some k | _ => none)) = true := by kernel_rfl
theorem k26 : (Rows.cnfTextsRow.pinned == Rows.cnfTextsRow.pinnedBy) = true := by kernel_rfl
theorem k27 : (Rows.cnfTextsRow.veiled == (Tryz.f3.params.toList ++ Tryz.f3.resultTypes.toList).any (Tryz.prog.veiledRec ·)) = true := by kernel_rfl
theorem k28 : Rows.cnfTextsRow.veiledFits Tryz.prog Tryz.f3.params.toList (Tryz.f3.params.toList ++ Tryz.f3.resultTypes.toList) = true := by kernel_rfl
set_option maxRecDepth 100000 in
theorem closed : joinedFacts Tryz.prog 3 Tryz.f3 Rows.cnfTextsSpec Rows.cnfTextsRow = true :=
  joined_of types k1 laidOut sf.mapsRowed_ k4 k5 rfl sf.stops_ rfl sf.knobs_ k10 k11 k12 k13 k14 k15 k16 k17 k17b k18 k19 k20 k21 sf.plainKeys_ rfl sf.heard_ sf.enters_ sf.lifts_ sf.make_ k25 k26 k27 k28
theorem named_f : Tryz.prog.funcNamed "lustrum/lustrumlaw3.CnfTexts" = some 3 := by kernel_rfl
theorem apart_ : Tryz.f3.isInstance Tryz.prog Rows.cnfTextsRow.origin Rows.cnfTextsRow.targs := of_decide_eq_true (by kernel_rfl)
theorem wrapper_ : Tryz.f3.isWrapper Tryz.prog Rows.cnfTextsRow.wrapper Rows.cnfTextsRow.mainSum := by unfold Func.isWrapper; first | (rw [if_pos (by decide +kernel)]; kernel_rfl) | (rw [if_neg (by decide +kernel)]; exact ⟨rfl, rfl⟩)

theorem looks (f : FuncId) (fn : Func) (hf : Tryz.pinned.checked.prog.funcNamed "lustrum/lustrumlaw3.CnfTexts" = some f) (hfn : Tryz.pinned.checked.prog.funcs[f]? = some fn) :
    true = Tryz.pinned.checked.prog.looks [] ∧ ∀ (j : Nat) t, fn.params[j]? = some t → Tryz.pinned.checked.prog.wantsStandIn t = false := by
  obtain rfl : f = 3 := Option.some.inj (named_f.symm.trans hf) |>.symm
  obtain rfl : fn = Tryz.f3 := (Option.some.inj (Tryz.func3.symm.trans hfn)).symm
  refine ⟨sf.looks_, fun j t ht => ?_⟩
  have hm : t ∈ Tryz.f3.params.toList := Array.mem_toList_iff.2 (Array.mem_of_getElem? ht)
  have ha : (Tryz.f3.params.toList.all fun t => !Tryz.prog.wantsStandIn t) = true := by kernel_rfl
  have h1 := List.all_eq_true.1 ha t hm
  have h2 : Tryz.prog.wantsStandIn t = false := by simpa using h1
  exact h2
theorem pars : ∀ t ∈ Tryz.f3.params.toList, Tryz.prog.readableRec t = true ∧ t < Tryz.prog.types.size := fun t ht => by
  have ha : (Tryz.f3.params.toList.all fun t => Tryz.prog.readableRec t && decide (t < Tryz.prog.types.size)) = true := by kernel_rfl
  have := List.all_eq_true.1 ha t ht
  simpa using this
set_option maxRecDepth 100000 in
theorem contract (H : Type) (enc : TypeId × Value → H) (W : World) (base : Nat) (args : Array Value) (ds gs : List (DataW H)) (before : List MemPlace)
    (hval : ∀ (j : Nat) t v, Tryz.f3.params[j]? = some t → args[j]? = some v → Value.okWide Tryz.prog W .any base t v)
    (hW : DataW.Whole enc Tryz.prog Tryz.f3.params.toList Rows.cnfTextsSpec.vars false W args.toList ds gs before) (hz : (DataW.weightsEach Tryz.prog (Tryz.f3.params.toList ++ (OpenSpec.ofChange Rows.cnfTextsSpec).bare.plain.varTypes Tryz.prog) (ds ++ gs)).all (· ≤ reachBytes) = true) (hL : laidMetH Tryz.prog Rows.cnfTextsRow.laid W) (hsh : W.ShapedOpen Tryz.prog) :
    Calls Tryz.prog 3 args W fun e W' => ∃ v, e = .returned v ∧ Rows.cnfTextsSpec.post enc Tryz.prog Tryz.f3 false true false false W args v W' :=
  (calls H enc W base args ds gs before hval hW hz hL hsh).mono fun e W' h => ⟨.bool true, h.1, post_true laidOut pars rfl rfl Tryz.underlying4 (fun ds hd => by
    match ds, hd with
    | [d], _ => rfl) hW h.2⟩
noncomputable def wArgs : Array Value := #[.agg #[.int .i64 0, .slice none 0 0]]
/-- the world with the handle laid -/
noncomputable def hWorld (os : Os) : World := (World.holding Tryz.prog os ⟨#[], #[], []⟩).setCell ⟨9, 0, none⟩ (.iface 106 (.agg #[.pointer (some ⟨18, 28, none⟩)]))
def plainLaid : List (String × DataW Unit) := Rows.cnfTextsRow.laid.filter fun x => x.2.handleName?.isNone
noncomputable def wWorld (os : Os) : World := (hWorld os).layVars Tryz.prog plainLaid
theorem wWorld_os (os : Os) : (wWorld os).os = os := World.layVars_os _ _ _
theorem met_plain (os : Os) : laidMet Tryz.prog plainLaid (wWorld os) := by
  have e1 : (plainLaid.filter fun x => (plainLaid.map (·.1)).contains x.1) = plainLaid := List.filter_eq_self.2 fun x hx => List.contains_iff_mem.2 (List.mem_map.2 ⟨x, hx, rfl⟩)
  have e2 : (plainLaid.filter fun x => !(plainLaid.map (·.1)).contains x.1) = [] := List.filter_eq_nil_iff.2 fun x hx => by rw [List.contains_iff_mem.2 (List.mem_map.2 ⟨x, hx, rfl⟩)]; simp
  exact laidMet_layVars (w0 := hWorld os) (plainLaid.map (·.1)) [] (by rw [e1]; rfl) (by rw [e1]; kernel_rfl) (by rw [e1]; kernel_rfl) (by rw [e2]; exact LaidIn.none)
theorem met (os : Os) (args : Array Value) : laidMetH Tryz.prog Rows.cnfTextsRow.laid ((wWorld os).forCall (fun _ _ => 0) ⟨#[], args, []⟩).memory :=
  laidMetH_of_parts ((met_plain os).of_heap (by simp [World.memory, World.forCall, Input.heap])) (by kernel_rfl)
theorem reads (os : Os) {H : Type} (enc : TypeId × Value → H) : ∃ places, DataW.whole enc Tryz.prog ((wWorld os).forCall (fun _ _ => 0) ⟨#[], wArgs, []⟩).memory Tryz.f3.params.toList Rows.cnfTextsSpec.vars false wArgs.toList 8 = some ([.agg [.lit (.int .i64 0), .nil]], [], places) :=
  ⟨[], by kernel_rfl⟩
set_option maxRecDepth 100000 in
theorem lifted (os : Os) (started : os.Started) (H : Type) (enc : TypeId × Value → H) (F : Stop.Interp) :
    ReturnsInHanded {} Tryz.checked os 3 .any ((OpenSpec.ofChange Rows.cnfTextsSpec).preRow enc Tryz.prog Tryz.f3 Rows.cnfTextsRow.domain false Rows.cnfTextsRow.laid) (((OpenSpec.ofChange Rows.cnfTextsSpec).at F).post enc Tryz.prog Tryz.f3 false true false false) := by
  obtain ⟨places, hx⟩ := reads os enc
  refine returnsInHanded_of_row (C := Tryz.checked) (s := OpenSpec.ofChange Rows.cnfTextsSpec) own started (by kernel_rfl) Tryz.func3
    (witness_row_atRef (enc := enc) (C := Tryz.checked) false (wWorld os) wArgs (wWorld_os os) (by kernel_rfl) (by kernel_rfl) (by kernel_rfl)
      (OpenSpec.preRow_of_cond 8 hx (by kernel_rfl) (fun k hk => by cases hk) (by kernel_rfl) (met os wArgs))) ?_
  intro W base args ds gs before hval hW _ _ hz hL hsh _
  exact contract H enc W base args ds gs before hval hW hz hL hsh
theorem said : Rows.CnfTextsSaid :=
  OpenClaim.holds_of_cond 3 Tryz.f3 rfl rfl rfl rfl rfl rfl rfl ⟨rfl, rfl, rfl, rfl, rfl⟩ rfl rfl rfl rfl rfl named_f Tryz.func3 closed apart_ wrapper_
    (fun os started H enc _ F => by rw [OpenClaim.pre_eq_preRow]; exact lifted os started H enc F)
theorem t1 : Rows.cnfTextsRow.wfByText (OpenSpec.ofChange Rows.cnfTextsSpec) = true := by kernel_rfl
theorem t2 : Tryz.pinned.checked.prog.mainIs = some (Rows.cnfTextsCard.stood.harness.1, Rows.cnfTextsCard.stood.harness.2.toList) := by kernel_rfl
theorem t3 : false = Rows.cnfTextsRow.goesBy Tryz.pinned.checked.prog := by kernel_rfl
/-- THE CARD -/
theorem card : Rows.CnfTextsCardSaid :=
  Claim7.holds_tied_plain_at .later [] _ _ _ _ said (fun _ h => by cases h) t1 (fun _ h => by cases h) cnfTexts_row_tie rfl ⟨rfl, rfl⟩ t2 rfl looks t3
end Go.Proofs.YtaedbnbeelkkcaaGreatDoor.cnfTexts
namespace Go.Proofs.YtaedbnbeelkkcaaGreatDoor
/-- for every input the law CnfTexts answers true -/
theorem cnfTexts_holds : Rows.CnfTextsCardSaid := cnfTexts.card
end Go.Proofs.YtaedbnbeelkkcaaGreatDoor
